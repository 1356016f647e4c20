/-
  Contracts: package outlier: whole. Lists that grow, or are just laid out (out of dg/WdMs).
-/
import Derived.Test.YtjhnilfelokpcaaGreatOutlierPathsAq
import Derived.Test.YtjhnilfelokpcaaGreatOutlierPathsBi
import Derived.Test.YtjhnilfelokpcaaGreatOutlierPathsBj
import Derived.Test.YtjhnilfelokpcaaGreatOutlierPathsBf
set_option linter.unusedVariables false
set_option linter.unusedSimpArgs false
set_option linter.defProp false
set_option linter.deprecated false
namespace Go.Id
open Go
open Nat renaming reduceAdd→zA,reduceEqDiff→zE,reduceLeDiff→zL
set_option maxHeartbeats 16000000
def fR (l:List (Nat×Nat)):Nat→Nat
 | 0=>1
 | i+1=>Nat.lcm (fR l i) (l.getD i (0,1)).2
theorem nV {l:List (Nat×Nat)} {i:Nat} {p:Nat×Nat} (h:l[i]?=some p):fR l (i+1)=Nat.lcm (fR l i) p.2:=by
 rw[fR,List.getD_eq_getElem?_getD,h];rfl
theorem PB {S:Nat} {l:List (Nat×Nat)} (h:smR S l) {i:Nat} (hi:i≤l.length):fR l i∣S:=by
 induction i with
 | zero=>exact Nat.one_dvd _
 | succ i ih =>
  obtain⟨p,hp⟩ : ∃p,l[i]?=some p:=⟨_,List.getElem?_eq_getElem hi⟩
  rw[nV hp]
  exact Nat.lcm_dvd (ih (by omega)) (h.2.2 p (List.mem_of_getElem? hp)).2.2
theorem Dk {S:Nat} {l:List (Nat×Nat)} (h:smR S l) {i:Nat} (hi:i≤l.length):0<fR l i∧fR l i≤1000:=by
 have hd:=PB h hi
 exact⟨Nat.pos_of_dvd_of_pos hd h.1,Nat.le_trans (Nat.le_of_dvd h.1 hd) h.2.1⟩
theorem PA {l:List (Nat×Nat)} {i j:Nat} {p:Nat×Nat} (hj:j<i) (hp:l[j]?=some p) (hi:i≤l.length):p.2∣fR l i:=by
 induction i with
 | zero=>omega
 | succ i ih =>
  obtain⟨q,hq⟩ : ∃p,l[i]?=some p:=⟨_,List.getElem?_eq_getElem hi⟩
  rw[nV hq]
  by_cases c:j=i
  ·subst c
   rw[hp] at hq
   cases hq
   exact Nat.dvd_lcm_right _ _
  ·exact Nat.dvd_trans (ih (by omega) (by omega)) (Nat.dvd_lcm_left _ _)
theorem JZ (a d:Nat):(a:Int)*((d:Int) / ((Int.gcd (a:Int) (d:Int):Nat):Int))=((Nat.lcm a d:Nat):Int):=by
 rw[Int.gcd_natCast_natCast,←Int.natCast_ediv,←Int.natCast_mul,Nat.lcm,Nat.mul_div_assoc _ (Nat.gcd_dvd_right a d)]
def wL (l:List (Nat×Nat)):List Nat:=l.map fun p=>p.1*(fR l l.length / p.2)
theorem lK (l:List (Nat×Nat)):(wL l).length=l.length:=by simp[wL]
theorem I6 {l:List (Nat×Nat)} {i:Nat} {p:Nat×Nat} (h:l[i]?=some p):(wL l)[i]?=some (p.1*(fR l l.length / p.2)):=by simp[wL,h]
theorem UC {S:Nat} {l:List (Nat×Nat)} (h:smR S l) {p:Nat×Nat} (hp:p∈l):p.1*(fR l l.length / p.2)≤1000000:=by
 have h1:=(h.2.2 p hp).1
 have h2:fR l l.length / p.2≤1000:=Nat.le_trans (Nat.div_le_self _ _) (Dk h (Nat.le_refl _)).2
 exact Nat.mul_le_mul h1 h2
theorem UJ {l:List Nat} {b:Nat} (h : ∀x∈l,x≤b) {i:Nat} (hi:i≤l.length):ck l i≤i*b:=by
 induction i with
 | zero=>simp[ck]
 | succ i ih =>
  obtain⟨p,hp⟩ : ∃p,l[i]?=some p:=⟨_,List.getElem?_eq_getElem hi⟩
  have:=h p (List.mem_of_getElem? hp)
  have:=ih (by omega)
  rw[qS l hp,Nat.add_mul,Nat.one_mul]
  omega
theorem mY:1000000000000<H8:=by unfold H8;decide +kernel
theorem G0 {n:Nat} (hn:n≤1000000000000):wdI n=(n:Int):=jR (Nat.lt_of_le_of_lt hn mY)
theorem ij {n:Nat} (hn:n≤1000000000000):fF (n:Int):=aS (k:=100) (by rw[Int.natAbs_natCast];exact Nat.le_trans hn (by decide)) (by decide)
theorem LV {h:IH} {v:Value} {l:List (Nat×Nat)} {S:Nat} (hv:jt h v l) (hS:smR S l) (hl:l.length≤1000) :
  WV Proofs.Tryz.prog (.func (.func 194) #[] #[]) [v] h fun r h'=>Ext h h' ∧ ∃out,r=.tuple #[out,KI 0]∧Au h' out (wL l):=by
 obtain⟨cv,co⟩:=hv.co
 refine enter (nt:=71) (rs:=[.tmp 2,.tmp 3]) Proofs.Tryz.func194 rfl rfl rfl (by simp) ?_
 simp -dsimp (disch:=try exact dx) only[wpS]
 refine call (qg 1 ⟨by omega,by omega⟩) ?_
 rintro _ h1 ⟨X1,p1⟩
 have m1:=X1.n
 obtain⟨s1,n1,rfl,c3,o3,_,_⟩:=p1.form
 simp -dsimp (disch:=try exact dx) only[wpS,wpT,zE,zL,zA,iR,fi,o3,hv.1.len tP]
 have E2:Ext h1 ((h1.new (.cells [.bool false,.slice none 0 0] 0 none)).put h1.n (.cells [.bool false,s1] 0 none)):=((Ext.refl h1).new _).put (Nat.le_refl _) _
 have EE:=X1.trans E2
 refine loop (fun m fr hh => ∃(i:Nat) (t:Value),i+m=l.length∧Ext h hh∧h1.n<hh.n∧hh.ext.get h1.n=some (.cells [.bool false,t] 0 none)∧bj hh (.agg #[.bool false,t]) ((fR l i:Nat):Int)∧ai fr 0=some v∧ai fr 4=some (ptr (2*h1.n) 0)∧ai fr 18=some v∧ai fr 19=some (KN l.length)∧ai fr 20=some (KN i)) l.length
  ⟨0,s1,by omega,EE,by simp,by simp (disch:=try exact dx) only[aa],p1.ae E2.ae,by simp,by simp,by simp,by simp,by simp⟩ ?_
 rintro m fr hh ⟨i,t,him,hE,hn,g4,pt,f0,f4,f18,f19,f20⟩
 have hnn:=hE.n
 simp -dsimp (disch:=try exact dx) only[wpS,zE,f19,f20]
 refine aA ?_ ?_<;>intro hc<;>simp only[decide_eq_true_eq,decide_eq_false_iff_not] at hc
 ·have hi:i<l.length:=by omega
  obtain⟨p,hp⟩ : ∃p,l[i]?=some p:=⟨_,List.getElem?_eq_getElem hi⟩
  have pw:=hv.2.2 p (List.mem_of_getElem? hp)
  obtain⟨b1,b2,b3⟩:=hS.2.2 p (List.mem_of_getElem? hp)
  have b4:=Nat.le_of_dvd hS.1 b3
  have b5:=hS.2.1
  have lb:=Dk hS (i:=i) (by omega)
  simp -dsimp (disch:=try exact dx) only[wpS,wpT,zE,zL,zA,xr,rz,tm,bL,f18,f20,hv.1.idx xJ hi,hv.ld hE.ae hp,bV,aP,dH,iI,lT]
  obtain⟨H0,hH0⟩ : ∃H,H=(hh.new (.cells Z16 0 none)).put hh.n (.cells (shC p.1 p.2) 0 none):=⟨_,rfl⟩
  have E0:Ext hh H0:=by rw[hH0];exact((Ext.refl hh).new _).put (Nat.le_refl _) _
  have n0:H0.n=hh.n+1:=by rw[hH0];rfl
  rw[←hH0]
  clear hH0
  refine call (gT p.2 pw.2) ?_
  rintro _ h2 ⟨X2,p2⟩
  have m2:=X2.n
  rw[G0 (by omega)] at p2
  obtain⟨s2,n2,rfl,c2,o2,_,_⟩:=p2.form
  have d2:decide (((p.2:Nat):Int)<0)=false:=decide_eq_false (by omega)
  rw[d2] at p2 ⊢
  obtain⟨H2,hH2⟩ : ∃H,H=(h2.new (.cells ZL 0 none)).put h2.n (.cells [.bool false,s2] 0 none):=⟨_,rfl⟩
  have e2:Ext h2 H2:=by rw[hH2];exact((Ext.refl h2).new _).put (Nat.le_refl _) _
  have k2:H2.n=h2.n+1:=by rw[hH2];rfl
  have q7:H2.ext.get h2.n=some (.cells [.bool false,s2] 0 none):=by rw[hH2];simp (disch:=try exact dx) only[aa]
  have X02:=(E0.trans X2).trans e2
  have q4:=X02.kept (by omega) g4
  simp -dsimp (disch:=try exact dx) only[wpS,wpT,zE,zL,zA,iR,fi,o2]
  rw[←hH2]
  clear hH2
  have Y0:=Ext.refl H2
  have M1:=pl2 q7
  have M2:=pl2 q4
  refine drawn [(0,[4])] (by kernel_rfl) (by kernel_rfl) rfl ?_
  simp -dsimp (disch:=try exact dx) only[wpS,wpT,zE,zL,zA,bP,f4,aj q7,aj q4,kH]
  refine call (oP (pt.ae X02.ae) (p2.ae e2.ae) (ij (by omega)).small (ij (by omega)).small) ?_
  rintro _ h3 ⟨X3,p3⟩
  have m3:=X3.n
  obtain⟨s3,n3,rfl,c3',o3',_,_⟩:=p3.form
  simp -dsimp (disch:=try exact dx) only[wpS,wpT,zE]
  have gp:Int.gcd ((fR l i:Nat):Int) ((p.2:Nat):Int)≤1000:=by
   rw[Int.gcd_natCast_natCast]
   exact Nat.le_trans (Nat.le_of_dvd lb.1 (Nat.gcd_dvd_left _ _)) lb.2
  have gp0:Int.gcd ((fR l i:Nat):Int) ((p.2:Nat):Int)≠0:=by
   rw[Int.gcd_natCast_natCast]
   exact Nat.pos_iff_ne_zero.1 (Nat.gcd_pos_of_pos_left _ lb.1)
  refine call (nQ (p2.ae (e2.trans X3).ae) p3 (ij (by omega)).small (ij (by omega)).small (by omega)) ?_
  rintro _ h4 ⟨X4,q,u,rfl,pq,pu⟩
  have m4:=X4.n
  have X34:=X3.trans X4
  obtain⟨Q,hQ⟩ : ∃Q:Nat,Q=p.2 / Nat.gcd (fR l i) p.2:=⟨_,rfl⟩
  have eQ:((p.2:Nat):Int) / ((Int.gcd ((fR l i:Nat):Int) ((p.2:Nat):Int):Nat):Int)=(Q:Int):=by rw[hQ,Int.gcd_natCast_natCast,Int.natCast_ediv]
  have eL:=JZ (fR l i) p.2
  rw[eQ,←nV hp] at eL
  rw[eQ] at pq
  have Qb:Q≤1000:=by rw[hQ];exact Nat.le_trans (Nat.div_le_self _ _) (by omega)
  obtain⟨s4,n4,rfl,c4,o4,_,_⟩:=pq.form
  obtain⟨s5,n5,rfl,c5,o5,_,_⟩:=pu.form
  have d4:decide ((Q:Int)<0)=false:=decide_eq_false (by omega)
  rw[d4] at pq
  simp -dsimp (disch:=try exact dx) only[wpS,wpT,zE,zL,zA,iR,fi,o4,o5,d4]
  refine⟨by repeat' first|refine ba ?_ ?_|refine aX ?_ ?_|exact ao rfl rfl rfl rfl (aD (H0:=H2) rfl (by omega) (by assumption) (by assumption) (by with_reducible assumption)),?_⟩
  obtain⟨H5,hH5⟩ : ∃H,H=(((h4.new (.cells ZL 0 none)).new (.cells ZL 0 none)).put h4.n (.cells [.bool false,s4] 0 none)).put (h4.n+1) (.cells [.bool false,s5] 0 none):=⟨_,rfl⟩
  have E5:Ext h4 H5:=by rw[hH5];exact((((Ext.refl h4).new _).new _).put (by omega) _).put (by omega) _
  have n5:H5.n=h4.n+2:=by rw[hH5];rfl
  have k8:H5.ext.get h4.n=some (.cells [.bool false,s4] 0 none):=by rw[hH5];simp (disch:=try exact dx) only[aa,ah]
  have X25:=X34.trans E5
  have k4:=X25.kept (by omega) q4
  simp -dsimp (disch:=try exact dx) only[wpS,wpT,zE,zA]
  rw[←hH5]
  clear hH5
  simp -dsimp (disch:=try exact dx) only[wpS,wpT,zE,zL,zA,bP,f4,aj k4,aj k8,kH]
  refine call (ec (pt.ae (X02.trans X25).ae) (pq.ae E5.ae) (ij (by omega)) (ij (by omega))) ?_
  rintro _ h6 ⟨X6,p6⟩
  have m6:=X6.n
  rw[eL] at p6
  obtain⟨s6,n6,rfl,c6,o6,_,_⟩:=p6.form
  have d6:decide (((fR l (i+1):Nat):Int)<0)=false:=decide_eq_false (by omega)
  rw[d6] at p6 ⊢
  have gk:=X6.kept (by omega) k4
  simp -dsimp (disch:=try exact dx) only[wpS,wpT,zE,zL,zA,fi,f4,f20,gk,o6]
  exact⟨m - 1,by omega,i+1,s6,by omega,(hE.trans ((X02.trans X25).trans X6)).put (by omega) _,by simp;omega,by simp (disch:=try exact dx) only[aa],p6.ae ((aN.refl _).put gk _),by simp[f0],by simp[f4],by simp[f18],by simp[f19],by simp⟩
 ·obtain rfl:i=l.length:=by omega
  have lb:=Dk hS (Nat.le_refl l.length)
  obtain⟨L,hL⟩ : ∃L,L=fR l l.length:=⟨_,rfl⟩
  rw[←hL] at lb pt
  simp -dsimp (disch:=try exact dx) only[wpS,wpT,zE,f0,hv.1.len tP]
  refine loop (fun m fr hh' => ∃(i:Nat) (out:Value),i+m=l.length∧Ext hh hh'∧Acc hh' hh.n 8 out i (wiL ((wL l).take i))∧ai fr 4=some (ptr (2*h1.n) 0)∧ai fr 10=some out∧ai fr 39=some v∧ai fr 40=some (KN l.length)∧ai fr 41=some (KN i)) l.length
   ⟨0,.slice none 0 0,by omega,Ext.refl _,Acc.nil _ _ (by omega),by simp[f4],by simp,by simp,by simp,by simp⟩ ?_
  rintro m fr hh' ⟨i,out,ZM,hE',hA,g4',g10,g39,g40,g41⟩
  have hnn':=hE'.n
  simp -dsimp (disch:=try exact dx) only[wpS,g40,g41]
  refine aA ?_ ?_<;>intro hc<;>simp only[decide_eq_true_eq,decide_eq_false_iff_not] at hc
  ·have hi:i<l.length:=by omega
   obtain⟨p,hp⟩ : ∃p,l[i]?=some p:=⟨_,List.getElem?_eq_getElem hi⟩
   have pw:=hv.2.2 p (List.mem_of_getElem? hp)
   obtain⟨b1,b2,b3⟩:=hS.2.2 p (List.mem_of_getElem? hp)
   have b4:=Nat.le_of_dvd hS.1 b3
   have b5:=hS.2.1
   simp -dsimp (disch:=try exact dx) only[wpS,wpT,zE,zL,zA,xr,rz,g39,g41,hv.1.idx xJ hi,hv.ld (hE.trans hE').ae hp,bV,aP,dH,iI]
   obtain⟨H0,hH0⟩ : ∃H,H=(hh'.new (.cells Z16 0 none)).put hh'.n (.cells (shC p.1 p.2) 0 none):=⟨_,rfl⟩
   have E0:Ext hh' H0:=by rw[hH0];exact((Ext.refl hh').new _).put (Nat.le_refl _) _
   have n0:H0.n=hh'.n+1:=by rw[hH0];rfl
   have r12:H0.ext.get hh'.n=some (.cells (shC p.1 p.2) 0 none):=by rw[hH0];simp (disch:=try exact dx) only[aa]
   have q4:=E0.kept (by omega) (hE'.kept hn g4)
   have E0':=hE'.trans E0
   rw[←hH0]
   clear hH0
   have Y0:=Ext.refl H0
   have M2:=pl2 q4
   refine drawn [(0,[4])] (by kernel_rfl) (by kernel_rfl) rfl ?_
   simp -dsimp (disch:=try exact dx) only[wpS,wpT,zE,zL,zA,tm,bL,bP,g4',aj q4,aj r12,kH,aP,lT]
   refine call (gT p.2 pw.2) ?_
   rintro _ h2 ⟨X2,p2⟩
   have m2:=X2.n
   rw[G0 (by omega)] at p2
   obtain⟨s2,n2,rfl,c2,o2,_,_⟩:=p2.form
   simp -dsimp (disch:=try exact dx) only[wpS,wpT,zE]
   refine call (nQ (pt.ae (E0'.trans X2).ae) p2 (ij (by omega)).small (ij (by omega)).small (by omega)) ?_
   rintro _ h4 ⟨X4,q,u,rfl,pq,pu⟩
   have m4:=X4.n
   have X24:=X2.trans X4
   obtain⟨Q,hQ⟩ : ∃Q:Nat,Q=L / p.2:=⟨_,rfl⟩
   have eQ:((L:Nat):Int) / ((p.2:Nat):Int)=(Q:Int):=by rw[hQ,Int.natCast_ediv]
   rw[eQ] at pq
   have Qb:Q≤1000:=by rw[hQ];exact Nat.le_trans (Nat.div_le_self _ _) (by omega)
   obtain⟨s4,n4,rfl,c4,o4,_,_⟩:=pq.form
   obtain⟨s5,n5,rfl,c5,o5,_,_⟩:=pu.form
   have d4:decide ((Q:Int)<0)=false:=decide_eq_false (by omega)
   rw[d4] at pq
   obtain⟨b5',hb5⟩ : ∃b,b=decide (((L:Nat):Int) % ((p.2:Nat):Int)<0):=⟨_,rfl⟩
   rw[←hb5]
   simp -dsimp (disch:=try exact dx) only[wpS,wpT,zE,zL,zA,iR,fi,o4,o5,d4]
   refine⟨ao rfl rfl rfl rfl (aD (H0:=H0) (show ai _ 4=_ by simp[g4']) (by omega) Y0 X2 M2),?_⟩
   obtain⟨H5,hH5⟩ : ∃H,H=(((h4.new (.cells ZL 0 none)).new (.cells ZL 0 none)).put h4.n (.cells [.bool false,s4] 0 none)).put (h4.n+1) (.cells [.bool b5',s5] 0 none):=⟨_,rfl⟩
   have E5:Ext h4 H5:=by rw[hH5];exact((((Ext.refl h4).new _).new _).put (by omega) _).put (by omega) _
   have n5:H5.n=h4.n+2:=by rw[hH5];rfl
   have k13:H5.ext.get h4.n=some (.cells [.bool false,s4] 0 none):=by rw[hH5];simp (disch:=try exact dx) only[aa,ah]
   have X25:=X24.trans E5
   have k12:=X25.kept (by omega) r12
   simp -dsimp (disch:=try exact dx) only[wpS,wpT,zA]
   rw[←hH5]
   clear hH5
   clear Y0 M2
   have Y0:=Ext.refl H5
   have M2:=pl2 k13
   refine drawn [(3,[2])] (by kernel_rfl) (by kernel_rfl) rfl ?_
   simp -dsimp (disch:=try exact dx) only[wpS,zE,zL,bL,zW,aj k12,aP,nO]
   refine call (gT p.1 pw.1) ?_
   rintro _ h6 ⟨X6,p6⟩
   have m6:=X6.n
   rw[G0 (by omega)] at p6
   obtain⟨s6,n6,rfl,c6,o6,_,_⟩:=p6.form
   simp -dsimp (disch:=try exact dx) only[wpS,wpT,zE,zL,zA,bP,aj (X6.kept (by omega) k13),kH]
   refine call (ec p6 (pq.ae (E5.trans X6).ae) (ij (by omega)) (ij (by omega))) ?_
   rintro _ h7 ⟨X7,p7⟩
   have m7:=X7.n
   have X67:=X6.trans X7
   simp -dsimp (disch:=try exact dx) only[wpS,zE]
   refine call (qc p7) ?_
   rintro _ h8 ⟨X8,rfl⟩
   have m8:=X8.n
   have X68:=X67.trans X8
   obtain⟨w,hw⟩ : ∃w,w=p.1*Q:=⟨_,rfl⟩
   have ew:((p.1:Nat):Int)*((Q:Nat):Int)=(w:Int):=by rw[hw,Int.natCast_mul]
   have wb:w≤1000000:=by rw[hw];exact Nat.mul_le_mul b1 Qb
   have wW:w<W8:=by have:=mY;have:=cC;omega
   have iw:InW (w:Int):=by have:=mY;unfold InW;omega
   have ev:pz (w:Int)=wdV w:=by show wdV (bW (w:Int))=_;rw[nA (by omega)];rfl
   rw[ew,if_pos iw,ev]
   simp -dsimp (disch:=try exact dx) only[wpS,wpT,zE,zL,zA,fo,dr,aY,aq,aM,bf]
   refine⟨by repeat' first|refine ba ?_ ?_|refine aX ?_ ?_|exact ao rfl rfl rfl rfl (aD (H0:=H5) rfl (by omega) (by assumption) (by assumption) (by with_reducible assumption)),?_⟩
   obtain⟨H9,hH9⟩ : ∃H,H=(h8.new (.cells [ZW,ZW,ZW,ZW,ZW,ZW,ZW,ZW] 0 none)).put h8.n (.cells (wdC w) 0 none):=⟨_,rfl⟩
   have E9:Ext h8 H9:=by rw[hH9];exact((Ext.refl h8).new _).put (Nat.le_refl _) _
   have n9:H9.n=h8.n+1:=by rw[hH9];rfl
   have k15:H9.ext.get h8.n=some (.cells (wdC w) 0 none):=by rw[hH9];simp (disch:=try exact dx) only[aa]
   simp -dsimp (disch:=try exact dx) only[wpS,wpT,zE,zA]
   rw[←hH9]
   clear hH9
   have EA:=((E0.trans X25).trans X68).trans E9
   obtain⟨dI,h10,hap,hA8,hG8,hE8⟩:=(hA.ext EA).Aq (P:=Proofs.Tryz.prog) (t:=28) Wc (m:=1) (new:=wdC w) (by omega) (by rw[aq]) (aM _) (by omega) (by omega) (hE'.trans EA) (Nat.le_refl _)
   have tj:append Proofs.Tryz.prog (H9.new (.cells (wdC w) 8 none)) 28 out (.slice (some ⟨2*H9.n,0,none⟩) 1 3)=some (dI,h10):=hap
   simp -dsimp (disch:=try exact dx) only[wpS,wpT,zE,zL,zA,bL,V5,DU,g10,g41,aj k15,aq,bf,aK,tj]
   refine⟨m - 1,by omega,i+1,dI,by omega,hE8,?_,by simp[g4'],by simp,by simp[g39],by simp[g40],by simp⟩
   rw[List.take_succ,I6 hp,←hL,←hQ,←hw]
   show Acc h10 hh.n 8 dI (i+1) (wiL ((wL l).take i ++ [w]))
   rw[yu]
   exact hA8
  ·obtain rfl:i=l.length:=by omega
   simp -dsimp (disch:=try exact dx) only[wpS,wpT,zE,g10]
   have hs:=hA.sl
   rw[List.take_of_length_le (by rw[lK];omega)] at hs
   refine⟨hE.trans hE',out,rfl,?_,by rw[lK];omega,?_⟩
   ·rw[lK];exact hs
   ·intro n hn
    obtain⟨p,hp,rfl⟩:=List.mem_map.1 hn
    have:=UC hS hp
    have:=mY
    have:=cC
    omega
end Go.Id

namespace Go.Id
open Go
def Gro (h:IH) (n0 sz:Nat) (v:Value) (n:Nat) (cs:List Value):Prop:=Acc h n0 sz v n cs∨(0<sz∧cs.length=n*sz ∧ ∃k,v=.slice (some ⟨2*k,0,none⟩) n (2*n+1)∧0<n∧n0≤k∧k<h.n∧h.ext.get k=some (.cells cs sz none))
theorem Gro.sl {h:IH} {n0 sz:Nat} {v:Value} {n:Nat} {cs:List Value} (g:Gro h n0 sz v n cs):bI h sz v n cs:=by
 rcases g with a|⟨hz,hl,k,rfl,hn,h1,h2,h3⟩
 ·exact a.sl
 ·exact cD h3 h2 hz hl (by omega) (by omega)
theorem Gro.ext {h h':IH} {n0 sz:Nat} {v:Value} {n:Nat} {cs:List Value} (g:Gro h n0 sz v n cs) (e:Ext h h'):Gro h' n0 sz v n cs:=by
 rcases g with a|⟨hz,hl,k,rfl,hn,h1,h2,h3⟩
 ·exact .inl (a.ext e)
 ·exact .inr ⟨hz,hl,k,rfl,hn,h1,by have:=e.n;omega,e.kept h2 h3⟩
theorem Gro.Aq {h:IH} {n0 sz:Nat} {v:Value} {n:Nat} {cs:List Value} (g:Gro h n0 sz v n cs) {P:Program} {t:TypeId} {bytes:Nat} (hT:kL P t=some (sz,bytes)) {m:Nat} {new:List Value} (hm:0<m) (hl:new.length=m*sz)
  (hc:new.all aH=true) (hsz:(n+m)*(bytes+1)≤1099511627776) (h0:n0≤h.n) {h0':IH} (e0:Ext h0' h) (hn0:h0'.n≤n0) :
  ∃v' h',append P (h.new (.cells new sz none)) t v (.slice (some ⟨2*h.n,0,none⟩) m (2*m+1))=some (v',h')∧Acc h' n0 sz v' (n+m) (cs ++ new)∧Grow h h'∧Ext h0' h':=by
 rcases g with a|⟨hz,hcl,k,rfl,hn,h1,h2,h3⟩
 ·exact a.Aq hT hm hl hc hsz h0 e0 hn0
 ·have e1:Ext h (h.new (.cells new sz none)):=(Ext.refl h).new _
  have sv:bI h sz (.slice (some ⟨2*k,0,none⟩) n (2*n+1)) n cs:=cD h3 h2 hz hcl (by omega) (by omega)
  have sx:bI (h.new (.cells new sz none)) sz (.slice (some ⟨2*h.n,0,none⟩) m (2*m+1)) m new:=cD (k:=h.n) (f:=none) (ab _ _ rfl) (by simp) hz hl (by omega) (by omega)
  refine⟨_,_,xl hT (sv.ext e1).now sx.now hm hn hc hsz,?_,(e1.new _).grow,(e0.trans e1).new _⟩
  exact(yk hz (by rw[List.length_append,hcl,hl,Nat.add_mul]) (by omega)).from (by simp only[ax];omega)
theorem Gro.put {h:IH} {n0 sz:Nat} {v:Value} {n:Nat} {cs:List Value} (g:Gro h n0 sz v n cs) {k:Nat} {c:List Value} {f:Option Nat} (hk:h.ext.get k=some (.cells c 0 f)) (o:bR):Gro (h.put k o) n0 sz v n cs:=by
 rcases g with a|⟨hz,hl,j,rfl,hn,h1,h2,h3⟩
 ·exact .inl (a.put hk o)
 ·refine .inr ⟨hz,hl,j,rfl,hn,h1,h2,?_⟩
  rw[mS,if_neg]
  ·exact h3
  ·rintro rfl;rw[hk] at h3;cases h3;omega
theorem Kg {h:IH} {sz m:Nat} {cs:List Value} (hz:0<sz) (hl:cs.length=m*sz) (hm:0<m):Gro (h.new (.cells cs sz none)) h.n sz (.slice (some ⟨2*h.n,0,none⟩) m (2*m+1)) m cs :=
 .inr ⟨hz,hl,h.n,rfl,hm,Nat.le_refl _,by simp,ab _ _ rfl⟩
theorem Gro.from {h:IH} {n0 n1 sz:Nat} {v:Value} {n:Nat} {cs:List Value} (g:Gro h n1 sz v n cs) (hn:n0≤n1):Gro h n0 sz v n cs:=by
 rcases g with a|⟨hz,hl,k,rfl,hp,h1,h2,h3⟩
 ·exact .inl (a.from hn)
 ·exact .inr ⟨hz,hl,k,rfl,hp,by omega,h2,h3⟩
end Go.Id

namespace Go.Id
open Go
open Go.Proofs.Tryz (prog)
open Nat renaming reduceAdd→zA,reduceEqDiff→zE,reduceLeDiff→zL
set_option maxHeartbeats 16000000
def wR (ll:List (List (Nat×Nat))) (x:Nat):List Nat:=wL (ll.getD x [])
noncomputable def fx (ll:List (List (Nat×Nat))):Nat→List Nat→Nat→Option (List Nat×Nat)
 | 0,p,s=>some (p,s)
 | n+1,p,s=>match jx (ck (wR ll (p.getLastD 0)) (wR ll (p.getLastD 0)).length) s with
  | none=>none
  | some q=>fx ll n (p ++ [gX (wR ll (p.getLastD 0)) q.1 (wR ll (p.getLastD 0)).length 0]) q.2
def oT (ll:List (List (Nat×Nat))):Prop:=1≤ll.length∧ll.length≤60 ∧ ∀x∈ll,x.length=ll.length∧(∃S,smR S x) ∧ ∃q∈x,0<q.1
theorem uv {ll:List (List (Nat×Nat))} (k:oT ll) {x:Nat} (hx:x<ll.length) : ∃row S,ll[x]?=some row∧wR ll x=wL row∧row.length=ll.length∧smR S row∧0<ck (wL row) (wL row).length∧ck (wL row) (wL row).length≤60000000:=by
 obtain⟨row,hr⟩ : ∃p,ll[x]?=some p:=⟨_,List.getElem?_eq_getElem hx⟩
 obtain⟨h1,⟨S,hS⟩,q,hq,q0⟩:=k.2.2 row (List.mem_of_getElem? hr)
 refine⟨row,S,hr,?_,h1,hS,?_,?_⟩
 ·rw[wR,List.getD_eq_getElem?_getD,hr];rfl
 ·obtain⟨j,hj⟩:=List.mem_iff_getElem?.1 hq
  have ht:=yB _ (I6 hj)
  have hL:=Dk hS (Nat.le_refl row.length)
  have hd:=PA (List.getElem?_eq_some_iff.1 hj).1 hj (Nat.le_refl _)
  have h2:0<fR row row.length / q.2:=Nat.div_pos (Nat.le_of_dvd hL.1 hd) (hS.2.2 q hq).2.1
  exact Nat.lt_of_lt_of_le (Nat.mul_pos q0 h2) ht
 ·have hb : ∀x∈wL row,x≤1000000:=fun x hx=>by
   obtain⟨p,hp,rfl⟩:=List.mem_map.1 hx
   exact UC hS hp
  have:=UJ hb (Nat.le_refl _)
  have h3:=k.2.1
  rw[lK,h1] at this ⊢
  omega
def Zq (ll:List (List (Nat×Nat))) (a b:Nat):Prop:=∃row q,ll[a]?=some row∧row[b]?=some q∧0<q.1
def kX (ll:List (List (Nat×Nat))) (p:List Nat):Prop:=(∀y∈p,y<ll.length) ∧ ∀i,i+1<p.length→Zq ll (p.getD i 0) (p.getD (i+1) 0)
theorem kD {p:List Nat} (h:0<p.length):p[p.length - 1]?=some (p.getLastD 0):=by
 cases p with
 | nil=>simp at h
 | cons a l=>rw[List.getLastD_eq_getLast?,List.getLast?_eq_getElem?,List.getElem?_eq_getElem (by simp)];rfl
theorem vv {ll:List (List (Nat×Nat))} (k:oT ll) {p:List Nat} (hp:0<p.length) (ok:kX ll p) {u s t:Nat} (hs:s<18446744073709551616)
  (hd:jx (ck (wR ll (p.getLastD 0)) (wR ll (p.getLastD 0)).length) s=some (u,t)):kX ll (p ++ [gX (wR ll (p.getLastD 0)) u (wR ll (p.getLastD 0)).length 0]):=by
 have hl:=kD hp
 obtain⟨row,S,hr,hw,hrl,hS,s0,_⟩:=uv k (ok.1 _ (List.mem_of_getElem? hl))
 rw[hw] at hd ⊢
 have hu:=(mq s0 hs hd).1
 obtain⟨h1,h2⟩:=LS hu
 obtain⟨y,hy⟩ : ∃y,y=gX (wL row) u (wL row).length 0:=⟨_,rfl⟩
 rw[←hy] at h1 h2 ⊢
 rw[lK] at h1
 refine⟨fun z hz=>?_,fun i hi=>?_⟩
 ·rcases List.mem_append.1 hz with hz|hz
  ·exact ok.1 z hz
  ·rw[List.mem_singleton.1 hz];omega
 ·rw[List.length_append,List.length_singleton] at hi
  by_cases c:i+1<p.length
  ·have:=ok.2 i c
   rw[List.getD_eq_getElem?_getD,List.getElem?_append_left (by omega),List.getD_eq_getElem?_getD,List.getElem?_append_left c]
   rw[List.getD_eq_getElem?_getD,List.getD_eq_getElem?_getD] at this
   exact this
  ·obtain rfl:i=p.length - 1:=by omega
   rw[List.getD_eq_getElem?_getD,List.getElem?_append_left (by omega),hl,List.getD_eq_getElem?_getD,List.getElem?_append_right (by omega),show p.length - 1+1 - p.length=0 by omega]
   obtain⟨q,hq⟩ : ∃q,row[y]?=some q:=⟨_,List.getElem?_eq_getElem h1⟩
   refine⟨row,q,hr,hq,?_⟩
   rw[List.getD_eq_getElem?_getD,I6 hq] at h2
   exact Nat.pos_of_mul_pos_right (by simpa using h2)
theorem lZ {ll:List (List (Nat×Nat))} (k:oT ll) {n:Nat} {p:List Nat} {s:Nat} (hp:0<p.length) (ok:kX ll p) (hs:s<18446744073709551616) {p':List Nat} {t:Nat}
  (h:fx ll n p s=some (p',t)):kX ll p'∧p'.length=p.length+n∧t<18446744073709551616∧p'.getD 0 0=p.getD 0 0:=by
 induction n generalizing p s with
 | zero=>cases h;exact⟨ok,rfl,hs,rfl⟩
 | succ n ih =>
  rw[fx] at h
  split at h
  ·cases h
  ·rename_i q hq
   obtain⟨row,S,hr,hw,hrl,hS,s0,_⟩:=uv k (ok.1 _ (List.mem_of_getElem? (kD hp)))
   have hq2:=hq
   rw[hw] at hq2
   obtain⟨a,b,c,d⟩:=ih (by simp) (vv k hp ok hs hq) (mq s0 hs hq2).2 h
   refine⟨a,by rw[b,List.length_append,List.length_singleton];omega,c,?_⟩
   rw[d,List.getD_eq_getElem?_getD,List.getElem?_append_left hp,List.getD_eq_getElem?_getD]
abbrev pI (p:List Nat):List Int:=p.map fun n:Nat=>((n:Nat):Int)
theorem y7 {p:List Nat} (h:0<p.length):((pI p).map KI)[p.length - 1]?=some (KN (p.getLastD 0)):=by
 rw[List.getElem?_map,List.getElem?_map,kD h];rfl
theorem ze {h:IH} {v:Value} {ll:List (List (Nat×Nat))} {x n s:Nat} (hv:hP h v ll) (hk:oT ll) (hx:x<ll.length) (hn:n≤20) (hs:s<18446744073709551616) :
  WV prog (.func (.func 97) #[] #[]) [.agg #[v],KN x,KN n,chV s] h fun r h'=>Ext h h'∧match fx ll n [x] s with
   | none=>r=.tuple #[.slice none 0 0,chV 0,KI 9]
   | some q => ∃out,r=.tuple #[out,chV q.2,KI 0]∧Gro h' (h.n+3) 1 out q.1.length ((pI q.1).map KI):=by
 obtain⟨cv,co,_⟩:=hv.co
 obtain⟨H0,hH0⟩ : ∃H,H=((h.new (.cells [v] 0 none)).new (.cells [K64 s] 0 none)).new (.cells [.int .u64 0] 0 none):=⟨_,rfl⟩
 have n0:H0.n=h.n+3:=by rw[hH0];rfl
 have E0:Ext h H0:=by rw[hH0];exact(((Ext.refl h).new _).new _).new _
 have c4:H0.ext.get h.n=some (.cells [v] 0 none):=by rw[hH0];simp (disch:=try exact dx) only[ab,ar]
 have c7:H0.ext.get (h.n+1)=some (.cells [K64 s] 0 none):=by rw[hH0];simp (disch:=try exact dx) only[ab,ar]
 have c9:H0.ext.get (h.n+2)=some (.cells [.int .u64 0] 0 none):=by rw[hH0];simp (disch:=try exact dx) only[ab]
 refine enter (nt:=56) (rs:=[.tmp 8,.cell 9 63,.tmp 10]) Proofs.Tryz.func97 rfl rfl rfl (by simp) ?_
 simp -dsimp (disch:=try exact dx) only[wpS,wpT,zE,zL,zA,jr,tw,chV]
 obtain⟨H1,hH1⟩ : ∃H,H=H0.new (.cells [KN x] 1 none):=⟨_,rfl⟩
 have n1:H1.n=h.n+4:=by rw[hH1,ax];omega
 have E1:Ext H0 H1:=by rw[hH1];exact(Ext.refl H0).new _
 have G1:Gro H1 (h.n+3) 1 (.slice (some ⟨2*H0.n,0,none⟩) 1 3) 1 ((pI [x]).map KI):=by
  have:=Kg (h:=H0) (sz:=1) (m:=1) (cs:=[KN x]) (by omega) rfl (by omega)
  rw[hH1,←n0]
  exact this
 rw[←hH0,←hH1]
 clear hH0 hH1
 refine loop (fun m fr hh => ∃(i:Nat) (out:Value) (p:List Nat) (si:Nat),i+m=n∧p.length=i+1∧si<18446744073709551616∧kX ll p∧fx ll n [x] s=fx ll m p si∧Ext h hh∧h.n+3<hh.n∧Gro hh (h.n+3) 1 out p.length ((pI p).map KI)∧hh.ext.get h.n=some (.cells [v] 0 none)∧hh.ext.get (h.n+1)=some (.cells [K64 si] 0 none)∧hh.ext.get (h.n+2)=some (.cells [.int .u64 0] 0 none)∧ai fr 4=some (ptr (2*h.n) 0)∧ai fr 7=some (ptr (2*(h.n+1)) 0)∧ai fr 9=some (ptr (2*(h.n+2)) 0)∧ai fr 11=some out∧ai fr 12=some (KI 0)∧ai fr 17=some (KN n)∧ai fr 18=some (KN i)) n
  ⟨0,_,[x],s,by omega,rfl,hs,⟨fun y hy=>by rw[List.mem_singleton.1 hy];exact hx,fun i hi=>by simp at hi⟩,rfl,E0.trans E1,by omega,G1,E1.kept (by omega) c4,E1.kept (by omega) c7,E1.kept (by omega) c9,by simp,by simp,by simp,by first|(simp;done)|(simp;omega),by simp,by simp,by simp⟩ ?_
 rintro m fr hh ⟨i,out,p,si,him,hpl,hsi,hok,hT,hE,hnn,hG,g4,g7,g9,f4,f7,f9,f11,f12,f17,f18⟩
 have hen:=hE.n
 simp -dsimp (disch:=try exact dx) only[wpS,f17,f18]
 refine aA ?_ ?_<;>intro hc<;>simp only[decide_eq_true_eq,decide_eq_false_iff_not] at hc
 ·obtain⟨q,rfl⟩ : ∃q,m=q+1:=⟨m - 1,by omega⟩
  have hl:=kD (p:=p) (by omega)
  have ge:=y7 (p:=p) (by omega)
  obtain⟨y,hy⟩ : ∃y,y=p.getLastD 0:=⟨_,rfl⟩
  rw[fx] at hT
  rw[←hy] at hl ge hT
  obtain⟨row,S,hr,hw,hrl,hS,s0,sb⟩:=uv hk (hok.1 _ (List.mem_of_getElem? hl))
  obtain⟨w,w1,w2,w3⟩:=hv.at hE.ae hr
  have sl:=hG.sl
  have len:=sl.len eH (P:=prog)
  have idx:=sl.idx gU (P:=prog) (k:=.i64) (j:=p.length - 1) (by omega)
  rw[Nat.mul_one] at idx
  have ld:=(sl.ld (aN.refl hh) (by simp;omega) ag3 (P:=prog) (c:=p.length - 1)).trans ge
  have RJ:(p.length:Int) - 1=((p.length - 1:Nat):Int):=by omega
  simp -dsimp (disch:=try exact dx) only[wpS,wpT,zE,SP,Zn,f4,f11,aj g4,len,RJ,idx,ld,w1,w3 .i64]
  refine call (LV w2 hS (by have:=hk.2.1;omega)) ?_
  rintro _ h2 ⟨X2,ws,rfl,hws⟩
  have m2:=X2.n
  have g7':=X2.kept (by omega) g7
  simp -dsimp (disch:=try exact dx) only[wpS,wpT,zE,zL,bZ,f7,aj g7',tk1]
  have lw:(wL row).length≤400:=by have:=hk.2.1;rw[lK];omega
  refine call (QI hws lw (Nat.lt_of_le_of_lt sb (Nat.lt_trans (by decide) mY)) s0 hsi) ?_
  rintro _ h3 ⟨X3,rfl⟩
  have m3:=X3.n
  have X23:=X2.trans X3
  have k4:=X23.kept (by omega) g4
  have k7:=X23.kept (by omega) g7
  have k9:=X23.kept (by omega) g9
  unfold BE
  rcases hd:jx (ck (wL row) (wL row).length) si with _|⟨u,t⟩
  ·rw[hw,hd] at hT
   rw[hT]
   simp -dsimp (disch:=try exact dx) only[wpS,wpT,zE,zL,bZ,dj,eX,f7,f9,f12,chV,k7,k9,tk1]
   exact⟨((hE.trans X23).put (by omega) _).put (by omega) _,rfl⟩
  ·have hut:=mq s0 hsi hd
   simp -dsimp (disch:=try exact dx) only[wpS,wpT,zE,zL,zA,tw,dj,fY,f7,f11,f12,chV,k7]
   obtain⟨z,hz⟩ : ∃z,z=gX (wL row) u (wL row).length 0:=⟨_,rfl⟩
   have hst:=vv hk (p:=p) (by omega) hok (u:=u) (t:=t) hsi (by rw[←hy,hw];exact hd)
   rw[←hy,hw,←hz] at hst
   rw[hw,hd] at hT
   simp only[←hz] at hT
   rw[←hz]
   obtain⟨H4,hH4⟩ : ∃H,H=h3.put (h.n+1) (.cells [K64 t] 0 none):=⟨_,rfl⟩
   have n4:H4.n=h3.n:=by rw[hH4];rfl
   have E4:Ext h H4:=by rw[hH4];exact(hE.trans X23).put (by omega) _
   have G4:Gro H4 (h.n+3) 1 out p.length ((pI p).map KI):=by rw[hH4];exact(hG.ext X23).put k7 _
   have j4:H4.ext.get h.n=some (.cells [v] 0 none):=by rw[hH4,ah _ _ (by omega)];exact k4
   have j7:H4.ext.get (h.n+1)=some (.cells [K64 t] 0 none):=by rw[hH4];simp (disch:=try exact dx) only[aa]
   have j9:H4.ext.get (h.n+2)=some (.cells [.int .u64 0] 0 none):=by rw[hH4,ah _ _ (by omega)];exact k9
   obtain⟨dI,h8,hap,hA8,hG8,hE8⟩:=G4.Aq (P:=prog) (t:=25) uR (m:=1) (new:=[KN z]) (by omega) rfl rfl (by omega) (by omega) E4 (by omega)
   have tj:append prog ((h3.put (h.n+1) (.cells [K64 t] 0 none)).new (.cells [KN z] 1 none)) 25 out (.slice (some ⟨2*h3.n,0,none⟩) 1 3)=some (dI,h8):=by
    rw[←n4,←hH4];exact hap
   simp -dsimp (disch:=try exact dx) only[wpS,zE,f18,tj]
   refine⟨q,by omega,i+1,dI,p ++ [z],t,by omega,by simp[hpl],hut.2,hst,hT,hE8,Nat.lt_of_lt_of_le (by omega) hG8.n,?_,hG8.var (by omega) j4,hG8.var (by omega) j7,hG8.var (by omega) j9,by simp[f4],by simp[f7],by simp[f9],by simp,by simp,by simp[f17],by simp⟩
   have e:(pI (p ++ [z])).map KI=(pI p).map KI ++ [KN z]:=by simp only[pI,List.map_append,List.map_cons,List.map_nil]
   rw[List.length_append,List.length_singleton,e]
   exact .inl hA8
 ·obtain rfl:m=0:=by omega
  rw[fx] at hT
  rw[hT]
  simp -dsimp (disch:=try exact dx) only[wpS,wpT,zE,zL,bZ,dj,f7,f9,f11,f12,aj g7,g9,tk1]
  exact⟨hE.put (by omega) _,out,rfl,hG.put g9 _⟩
end Go.Id

namespace Go.Id
open Go
open Nat renaming reduceAdd→zA,reduceEqDiff→zE,reduceLeDiff→zL
set_option maxHeartbeats 16000000
theorem Sv {ll:List (List (Nat×Nat))} (h1:1≤ll.length) (h2:ll.length≤60) (h : ∀x∈ll,x.length=ll.length∧Lx x):oT ll∧fk ll :=
 ⟨⟨h1,h2,fun x hx=>⟨(h x hx).1,(h x hx).2.2⟩⟩,h1,h2,fun x hx=>⟨(h x hx).1,(h x hx).2.1⟩⟩
theorem Fl {h:IH} {v:Value} {ll:List (List (Nat×Nat))} {x n:Nat} (hv:hP h v ll) (hk:fk ll) (hx:x<ll.length) (hn:n≤20) :
  WV Proofs.Tryz.prog (.func (.func 96) #[] #[]) [v,KN x,KN n] h fun r h'=>Ext h h'∧r=KI 0:=by
 obtain⟨cv,co,hlen⟩:=hv.co
 have hlb:=hk.2.1
 refine enter (nt:=29) (rs:=[.tmp 6]) Proofs.Tryz.func96 rfl rfl rfl (by simp) ?_
 simp -dsimp (disch:=try exact dx) only[wpS,zE,zA]
 refine call (BR hv) ?_
 rintro _ h1 ⟨X1,rfl⟩
 have e:PE ll=0:=by unfold PE;rw[if_pos hk]
 rw[e]
 simp -dsimp (disch:=try exact dx) only[wpS,wpT,zE,hlen]
 exact X1
theorem Pa {h:IH} {v:Value} {ll:List (List (Nat×Nat))} {x n s:Nat} (hv:hP h v ll) (hk:oT ll) (hko:fk ll) (hx:x<ll.length) (hn:n≤20) (hs:s<18446744073709551616) :
  WV Proofs.Tryz.prog (.func (.func 29) #[] #[]) [v,KN x,KN n,chV s] h fun r h'=>Ext h h'∧match fx ll n [x] s with
   | none=>r=.tuple #[.slice none 0 0,chV 0,KI 9]
   | some q => ∃out,r=.tuple #[out,chV q.2,KI 0]∧Gro h' h.n 1 out q.1.length ((pI q.1).map KI):=by
 obtain⟨cv,co,hlen⟩:=hv.co
 obtain⟨H0,hH0⟩ : ∃H,H=(h.new (.cells [K64 s] 0 none)).new (.cells [.int .u64 0] 0 none):=⟨_,rfl⟩
 have n0:H0.n=h.n+2:=by rw[hH0];rfl
 have E0:Ext h H0:=by rw[hH0];exact((Ext.refl h).new _).new _
 have c7:H0.ext.get h.n=some (.cells [K64 s] 0 none):=by rw[hH0];simp (disch:=try exact dx) only[ab,ar]
 have c9:H0.ext.get (h.n+1)=some (.cells [.int .u64 0] 0 none):=by rw[hH0];simp (disch:=try exact dx) only[ab]
 refine enter (nt:=29) (rs:=[.tmp 8,.cell 9 63,.tmp 10]) Proofs.Tryz.func29 rfl rfl rfl (by simp) ?_
 simp -dsimp (disch:=try exact dx) only[wpS,zE,zA,jr,chV]
 rw[←hH0]
 clear hH0
 refine call (Fl (hv.ae E0.ae) hko hx hn) ?_
 rintro _ h1 ⟨X1,rfl⟩
 have m1:=X1.n
 simp -dsimp (disch:=try exact dx) only[wpS,wpT,zE,zL,Uk,JH,bZ,aj (X1.kept (by omega) c7),tk1,cv]
 refine call (ze (hv.ae (E0.trans X1).ae) hk hx hn hs) ?_
 rintro r h2 ⟨X2,hr⟩
 have m2:=X2.n
 have k9:=(X1.trans X2).kept (by omega) c9
 have XX:=(E0.trans X1).trans X2
 revert hr
 rcases fx ll n [x] s with _|⟨p,t⟩<;>intro hr
 ·obtain rfl:=hr
  simp -dsimp (disch:=try exact dx) only[wpS,wpT,zE,zL,dj,bZ,k9,chV,tk1]
  exact XX.put (by omega) _
 ·obtain⟨out,rfl,hG⟩:=hr
  simp -dsimp (disch:=try exact dx) only[wpS,wpT,zE,zL,dj,bZ,k9,chV,tk1]
  exact⟨XX.put (by omega) _,out,rfl,(hG.put k9 _).from (by omega)⟩
end Go.Id

namespace Go.Id
open Go
def nw (h:IH) (n0 n1:Nat) (v:Value) (n:Nat) (cs:List Value):Prop :=
 cs.length=n ∧ ∃k c fam,v=.slice (some ⟨2*k,0,none⟩) n c∧(c=2*n∨(c=2*n+1∧fam=none))∧0<n∧n0≤k∧k<n1∧n1≤h.n∧h.ext.get k=some (.cells cs 1 fam)∧match fam with
  | none=>True
  | some f=>n0≤f∧f<h.n ∧ ∃rest,h.bQ.get f=some (k :: rest) ∧ ∀j∈rest,n0≤j∧j<n1
theorem Acc.VE {h:IH} {n0:Nat} {v:Value} {n:Nat} {cs:List Value} (a:Acc h n0 1 v n cs) (hn:0<n):nw h n0 h.n v n cs:=by
 obtain⟨hz,hl,⟨rfl,rfl⟩|⟨k,fam,rfl,hn,h1,h2,h3,h4⟩⟩:=a
 ·omega
 ·refine⟨by omega,k,2*n,fam,rfl,.inl rfl,hn,h1,h2,Nat.le_refl _,h3,?_⟩
  cases fam with
  | none=>trivial
  | some f=>exact h4
theorem nw.sl {h:IH} {n0 n1:Nat} {v:Value} {n:Nat} {cs:List Value} (g:nw h n0 n1 v n cs):bI h 1 v n cs:=by
 obtain⟨hl,k,c,fam,rfl,hc,hn,h1,h2,h3,h4,_⟩:=g
 exact cD h4 (by omega) (by omega) (by omega) (by omega) (by omega)
def Sim (n0 n1:Nat) (h h':IH):Prop:=h'.n=h.n∧h'.base=h.base∧(∀j,j<n0∨n1≤j→h'.ext.get j=h.ext.get j)∧h'.bQ=h.bQ
theorem Sim.refl (n0 n1:Nat) (h:IH):Sim n0 n1 h h:=⟨rfl,rfl,fun _ _=>rfl,rfl⟩
theorem Sim.trans {n0 n1:Nat} {a b c:IH} (x:Sim n0 n1 a b) (y:Sim n0 n1 b c):Sim n0 n1 a c:=⟨y.1.trans x.1,y.2.1.trans x.2.1,fun j hj=>(y.2.2.1 j hj).trans (x.2.2.1 j hj),y.2.2.2.trans x.2.2.2⟩
theorem Sim.ext {n0 n1:Nat} {g h h':IH} (s:Sim n0 n1 h h') (e:Ext g h) (hg:g.n≤n0):Ext g h' :=
 ⟨by rw[s.1];exact e.n,by rw[s.2.1];exact e.base,fun j hj=>(s.2.2.1 j (.inl (by omega))).trans (e.get j hj),fun f hf=>by rw[s.2.2.2];exact e.bQ f hf⟩
theorem nw.ext {h h':IH} {n0 n1:Nat} {v:Value} {n:Nat} {cs:List Value} (g:nw h n0 n1 v n cs) (e:Ext h h'):nw h' n0 n1 v n cs:=by
 obtain⟨hl,k,c,fam,rfl,hc,hn,h1,h2,h3,h4,h5⟩:=g
 refine⟨hl,k,c,fam,rfl,hc,hn,h1,h2,Nat.le_trans h3 e.n,(e.get k (by omega)).trans h4,?_⟩
 cases fam with
 | none=>trivial
 | some f =>
  obtain⟨a1,a2,rest,a3,a4⟩:=h5
  exact⟨a1,Nat.lt_of_lt_of_le a2 e.n,rest,by rw[e.bQ f a2];exact a3,a4⟩
theorem nw.put {h:IH} {n0 n1:Nat} {v:Value} {n:Nat} {cs:List Value} (g:nw h n0 n1 v n cs) {k:Nat} (hk:k<n0) (o:bR):nw (h.put k o) n0 n1 v n cs:=by
 obtain⟨hl,j,c,fam,rfl,hc,hn,h1,h2,h3,h4,h5⟩:=g
 refine⟨hl,j,c,fam,rfl,hc,hn,h1,h2,h3,by rw[ah _ _ (by omega)];exact h4,?_⟩
 cases fam with
 | none=>trivial
 | some f=>exact h5
theorem nw.set {h:IH} {n0 n1:Nat} {v:Value} {n:Nat} {cs:List Value} (g:nw h n0 n1 v n cs) {P:Program} {t:TypeId} (hT:aJ P t=some 1) {i:Nat} (hi:i<n) {x:Value} (hx:x.cells = #[x]) (hc:aH x=true) :
  ∃h',store P h t (aO v i) x=some h'∧nw h' n0 n1 v n (cs.set i x)∧Sim n0 n1 h h':=by
 obtain⟨hl,k,c,fam,rfl,hcc,hn,h1,h2,h2',h3,h4⟩:=g
 have hsp:IH.aG cs i [x]=cs.set i x:=jF (by omega)
 have k2:2*k / 2=k:=by omega
 have k1:(2*k % 2 == 1)=false:=by simp
 have hst:store P h t (aO (.slice (some ⟨2*k,0,none⟩) n c) i) x=h.wr (2*k) i [x]:=by
  simp only[aO,Nat.zero_add,store,asAddr,ptr,hT,hx]
  simp[hc]
 have hle:Nat.ble (i + [x].length) cs.length=true:=by rw[Nat.ble_eq];simp;omega
 rw[hst]
 cases fam with
 | none =>
  refine⟨h.put k (.cells (cs.set i x) 1 none),?_,⟨by simpa using hl,k,c,none,rfl,hcc,hn,h1,h2,h2',aa _ _ rfl,trivial⟩,rfl,rfl,fun j hj=>ah _ _ (by omega),rfl⟩
  simp only[IH.wr,k1,k2,h3,hle,cond_true,cond_false,hsp];rfl
 | some f =>
  obtain⟨a1,a2,rest,a3,a4⟩:=h4
  refine⟨{ h with ext:=(IH.cU h.ext (((k :: rest).filter (· != k)))).set k (.cells (cs.set i x) 1 none) },?_,⟨by simpa using hl,k,c,none,rfl,hcc.imp id (fun h=>⟨h.1,rfl⟩),hn,h1,h2,h2',?_,trivial⟩,rfl,rfl,fun j hj=>?_,rfl⟩
  ·simp only[IH.wr,k1,k2,h3,hle,cond_true,cond_false,hsp,a3]
  ·simp[Tr.bA]
  ·have hjk:j≠k:=by omega
   rw[Tr.bA,if_neg hjk,gJ,if_neg]
   intro hm
   simp only[List.mem_filter,List.mem_cons,bne_iff_ne,ne_eq] at hm
   rcases hm with⟨rfl|hm,hne⟩
   ·exact hne rfl
   ·have:=a4 j hm;omega
end Go.Id
