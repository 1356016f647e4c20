/-
  Contracts: package temper: whole. A block laid out by make and filled in place: its stores leave all other memory as it is.
-/
import Derived.Test.YtnanhedgenokpaaGreatTemperMovesAt
import Derived.Test.YtnanhedgenokpaaGreatTemperMovesBn
import Derived.Test.YtnanhedgenokpaaGreatTemperMovesBh
import Derived.Test.YtnanhedgenokpaaGreatTemperMovesAs
import Derived.Test.YtnanhedgenokpaaGreatTemperMovesBk
import Derived.Test.YtnanhedgenokpaaGreatTemperMovesBm
import Derived.Test.YtnanhedgenokpaaGreatTemperMovesBi
set_option linter.unusedVariables false
set_option linter.unusedSimpArgs false
set_option linter.defProp false
set_option linter.deprecated false
namespace Go.Id
open Go
open Go.Proofs.Tryz (prog)
open Nat renaming reduceAdd→zA,reduceEqDiff→zE,reduceLeDiff→zL
set_option maxHeartbeats 16000000
theorem En {h:IH} {v F:Value} {l:List (Nat×Nat)} (hv:iM h v l) (z:Nat×Nat→Nat) (hl:l.length≤1000)
  (hF : ∀h1 i p,Ext h h1→l[i]?=some p→WV prog F [KN i,shV p.1 p.2] h1 fun r h2=>Ext h1 h2∧r=if z p<H8 then .tuple #[wdV (z p),KI 0] else .tuple #[wdV 0,KI 6]) :
  WV prog (.func (.func 222) #[] #[]) [v,F] h fun r h'=>Ext h h'∧((∀p∈l,z p<H8) → ∃out,r=.tuple #[out,KI 0]∧iA h' out (l.map z))∧(¬(∀p∈l,z p<H8)→r=.tuple #[.slice none 0 0,KI 6]):=by
 refine enter (nt:=34) (rs:=[.tmp 4,.tmp 5]) Proofs.Tryz.func222 rfl rfl rfl (by simp) ?_
 simp -dsimp (disch:=try exact dx) only[wpS,zE,zA,hv.1.len rJ]
 refine loop (fun m fr hh => ∃(i:Nat) (out:Value),i+m=l.length∧Ext h hh∧Acc hh h.n 8 out i (wiL ((l.take i).map z))∧(∀j p,j<i→l[j]?=some p→z p<H8)∧ah fr 1=some F∧ah fr 6=some out∧ah fr 11=some v∧ah fr 12=some (KN l.length)∧ah fr 13=some (KN i)) l.length
  ⟨0,.slice none 0 0,by omega,Ext.refl _,Acc.nil _ _ (by omega),fun j p hj=>by omega,by simp,by simp,by simp,by simp,by simp⟩ ?_
 rintro m fr hh ⟨i,out,him,hE,hA,xu,f1,f6,f11,f12,f13⟩
 have hnn:=hE.n
 simp -dsimp (disch:=try exact dx) only[wpS,f12,f13]
 refine ax ?_ ?_<;>intro hc<;>simp only[decide_eq_true_eq,decide_eq_false_iff_not] at hc
 ·have hi:i<l.length:=by omega
  obtain⟨p,hp⟩ : ∃p,l[i]?=some p:=⟨_,List.getElem?_eq_getElem hi⟩
  have pw:=hv.2.2 p (List.mem_of_getElem? hp)
  simp -dsimp (disch:=try exact dx) only[wpS,wpT,zE,zL,zA,fE,mi,jr,f1,f11,f13,hv.1.idx sK hi,hv.ld hE.ab hp,aV,aH,cU,dX,bN]
  obtain⟨H0,hH0⟩ : ∃H,H=(hh.new (.cells Z16 0 none)).put hh.n (.cells (shC p.1 p.2) 0 none):=⟨_,rfl⟩
  have E0:Ext hh H0:=by rw[hH0];exact((Ext.refl hh).new _).put (Nat.le_refl _) _
  have n0:H0.n=hh.n+1:=by rw[hH0];rfl
  rw[←hH0]
  clear hH0
  refine call (hF H0 i p (hE.trans E0) hp) ?_
  rintro _ h1 ⟨X1,rfl⟩
  have m1:=X1.n
  have E1:=E0.trans X1
  by_cases ci:z p<H8
  ·rw[if_pos ci]
   have wz:z p<W8:=by have:=bV;omega
   obtain⟨H1,hH1⟩ : ∃H,H=(h1.new (.cells [ZW,ZW,ZW,ZW,ZW,ZW,ZW,ZW] 0 none)).put h1.n (.cells (wdC (z p)) 0 none):=⟨_,rfl⟩
   have E2:Ext h1 H1:=by rw[hH1];exact((Ext.refl h1).new _).put (Nat.le_refl _) _
   have n1:H1.n=h1.n+1:=by rw[hH1];rfl
   have k1:H1.ext.get h1.n=some (.cells (wdC (z p)) 0 none):=by rw[hH1];simp (disch:=try exact dx) only[ad]
   simp -dsimp (disch:=try exact dx) only[wpS,wpT,zE,zL,zA,dB,cj,aM,aj,ay,aO]
   rw[←hH1]
   clear hH1
   have E12:=E1.trans E2
   obtain⟨bR,h8,hap,hA8,hG8,hE8⟩:=(hA.ext E12).pU (P:=prog) (t:=42) FX (m:=1) (new:=wdC (z p)) (by omega) (by rw[aj]) (ay _) (by omega) (by omega) (hE.trans E12) (Nat.le_refl _)
   have jA:append prog (H1.new (.cells (wdC (z p)) 8 none)) 42 out (.slice (some ⟨2*H1.n,0,none⟩) 1 3)=some (bR,h8):=hap
   simp -dsimp (disch:=try exact dx) only[wpS,wpT,zE,zL,zA,ba,FP,nA,f6,f13,ai k1,aj,aO,aC,jA]
   refine⟨m - 1,by omega,i+1,bR,by omega,hE8,?_,fun j q hj hq=>?_,by simp[f1],by simp,by simp[f11],by simp[f12],by simp⟩
   ·rw[gF hp,List.map_append,List.map_cons,List.map_nil,lf]
    exact hA8
   ·by_cases hji:j=i
    ·subst hji;rw[hp] at hq;cases hq;exact ci
    ·exact xu j q (by omega) hq
  ·rw[if_neg ci]
   simp -dsimp (disch:=try exact dx) only[wpS,wpT,zE,zL,zA,dB,cj,aM,aj,ay,aO]
   exact⟨((hE.trans E1).new _).put (by omega) _,fun hf=>absurd (hf p (List.mem_of_getElem? hp)) ci,fun _=>trivial⟩
 ·obtain rfl:i=l.length:=by omega
  rw[List.take_length] at hA
  have dC : ∀p∈l,z p<H8:=fun p hp=>by
   obtain⟨j,hj⟩:=List.getElem?_of_mem hp
   exact xu j p (List.getElem?_eq_some_iff.1 hj).1 hj
  simp -dsimp (disch:=try exact dx) only[wpS,wpT,zE,f6]
  refine⟨hE,fun _=>⟨out,rfl,by rw[List.length_map];exact hA.sl,by rw[List.length_map];omega,fun n hn=>?_⟩,fun hn=>absurd dC hn⟩
  obtain⟨p,hp,rfl⟩:=List.mem_map.1 hn
  have:=dC p hp
  have:=bV
  omega
theorem Ci {h:IH} {b L i:Nat} {t:Value} {p:Nat×Nat} (g:h.ext.get b=some (.cells [.bool false,t] 0 none)) (hb:b<h.n) (pt:bq h (.agg #[.bool false,t]) (L:Int)) (hL:ku (L:Int)) (pw:p.1<W8∧p.2<W8) (pn:p.1<H8∧0<p.2∧p.2<H8) :
  WV prog (.func (.func 223) #[] #[ptr (2*b) 0]) [KN i,shV p.1 p.2] h fun r h2=>Ext h h2∧r=if p.1*(L / p.2)<H8 then .tuple #[wdV (p.1*(L / p.2)),KI 0] else .tuple #[wdV 0,KI 6]:=by
 obtain⟨H0,hH0⟩ : ∃H,H=(h.new (.cells (shC p.1 p.2) 0 none)).new (.cells [ZW,ZW,ZW,ZW,ZW,ZW,ZW,ZW] 0 none):=⟨_,rfl⟩
 have n0:H0.n=h.n+2:=by rw[hH0];rfl
 have E0:Ext h H0:=by rw[hH0];exact((Ext.refl h).new _).new _
 have c4:H0.ext.get h.n=some (.cells (shC p.1 p.2) 0 none):=by rw[hH0];simp (disch:=try exact dx) only[aa,ao]
 have c5:H0.ext.get (h.n+1)=some (.cells [ZW,ZW,ZW,ZW,ZW,ZW,ZW,ZW] 0 none):=by rw[hH0];simp (disch:=try exact dx) only[aa]
 have q2:=E0.kept hb g
 have hD:=Lk pw.2
 refine enter (nt:=25) (rs:=[.cell 5 30,.tmp 6]) Proofs.Tryz.func223 rfl rfl rfl (by simp) ?_
 simp -dsimp (disch:=try exact dx) only[wpS,zE,zA,dB,aV]
 rw[←hH0]
 clear hH0
 have Y0:=Ext.refl H0
 have M2:=pl2 q2
 refine drawn [(0,[4])] (by kernel_rfl) (by kernel_rfl) rfl ?_
 simp -dsimp (disch:=try exact dx) only[wpS,wpT,zE,zL,zA,bh,qV,ba,ai q2,ai c4,HT,aH,iT]
 refine call (fN p.2 pw.2) ?_
 rintro _ h2 ⟨X2,p2⟩
 have m2:=X2.n
 rw[gX pn.2.2] at p2
 obtain⟨s2,n2,rfl,c2,o2,_,_⟩:=p2.form
 simp -dsimp (disch:=try exact dx) only[wpS,wpT,zE]
 refine call (pB (pt.ab (E0.trans X2).ab) p2 hL.small hD.small (by omega)) ?_
 rintro _ h4 ⟨X4,q,u,rfl,pq,pu⟩
 have m4:=X4.n
 obtain⟨Q,hQ⟩ : ∃Q:Nat,Q=L / p.2:=⟨_,rfl⟩
 have eQ:((L:Nat):Int) / ((p.2:Nat):Int)=(Q:Int):=by rw[hQ,Int.natCast_ediv]
 rw[eQ] at pq
 have hQh:ku ((Q:Nat):Int):=xD (by rw[hQ];exact Nat.div_le_self _ _) hL
 rw[←hQ]
 obtain⟨s4,n4,rfl,c4',o4,_,_⟩:=pq.form
 obtain⟨s5,n5,rfl,c5',o5,_,_⟩:=pu.form
 have d4:decide ((Q:Int)<0)=false:=decide_eq_false (by omega)
 rw[d4] at pq
 obtain⟨b5,hb5⟩ : ∃b,b=decide (((L:Nat):Int) % ((p.2:Nat):Int)<0):=⟨_,rfl⟩
 rw[←hb5]
 have X24:=X2.trans X4
 simp -dsimp (disch:=try exact dx) only[wpS,wpT,zE,zL,zA,fU,dI,o4,o5,d4]
 refine⟨ak rfl rfl rfl rfl (aJ (H0:=H0) (b:=2*b) (o:=0) rfl (by omega) Y0 X2 M2),?_⟩
 obtain⟨H5,hH5⟩ : ∃H,H=(((h4.new (.cells ZL 0 none)).new (.cells ZL 0 none)).put h4.n (.cells [.bool false,s4] 0 none)).put (h4.n+1) (.cells [.bool b5,s5] 0 none):=⟨_,rfl⟩
 have E5:Ext h4 H5:=by rw[hH5];exact((((Ext.refl h4).new _).new _).put (by omega) _).put (by omega) _
 have k5:H5.n=h4.n+2:=by rw[hH5];rfl
 have k7:H5.ext.get h4.n=some (.cells [.bool false,s4] 0 none):=by rw[hH5];simp (disch:=try exact dx) only[ad,ae]
 have X25:=X24.trans E5
 have r4:=X25.kept (by omega) c4
 have r5:=X25.kept (by omega) c5
 simp -dsimp (disch:=try exact dx) only[wpS,wpT,zA]
 rw[←hH5]
 clear hH5
 clear Y0 M2
 have Y0:=Ext.refl H5
 have M7:=pl2 k7
 refine drawn [(3,[2])] (by kernel_rfl) (by kernel_rfl) rfl ?_
 simp -dsimp (disch:=try exact dx) only[wpS,zE,zL,ba,qW,ai r4,aH,gU]
 refine call (fN p.1 pw.1) ?_
 rintro _ h6 ⟨X6,p6⟩
 have m6:=X6.n
 rw[gX pn.1] at p6
 obtain⟨s6,n6,rfl,c6,o6,_,_⟩:=p6.form
 simp -dsimp (disch:=try exact dx) only[wpS,wpT,zE,zL,zA,bh,ai (X6.kept (by omega) k7),HT]
 refine call (dL p6 (pq.ab (E5.trans X6).ab) (Lk pw.1) hQh) ?_
 rintro _ h7 ⟨X7,p7⟩
 have m7:=X7.n
 have X67:=X6.trans X7
 simp -dsimp (disch:=try exact dx) only[wpS,zE]
 refine call (rU p7) ?_
 rintro _ h8 ⟨X8,rfl⟩
 have m8:=X8.n
 have X68:=X67.trans X8
 have w5:=X68.kept (by omega) r5
 obtain⟨w,hw⟩ : ∃w,w=p.1*Q:=⟨_,rfl⟩
 have ew:((p.1:Nat):Int)*((Q:Nat):Int)=(w:Int):=by rw[hw,Int.natCast_mul]
 rw[←hw,ew]
 by_cases fit:w<H8
 ·have iw:InW (w:Int):=by unfold InW;omega
  have ev:mj (w:Int)=wdV w:=by show wdV (aU (w:Int))=_;rw[vM (by omega)];rfl
  rw[if_pos iw,ev,if_pos fit]
  simp -dsimp (disch:=try exact dx) only[wpS,wpT,zE,zL,zA,cj,w5,aM,aj,ay,aO]
  refine⟨by repeat' first|refine aN ?_ ?_|refine aI ?_ ?_|exact ak rfl rfl rfl rfl (aJ (H0:=H5) rfl (by omega) (by assumption) (by assumption) (by with_reducible assumption)),?_⟩
  simp -dsimp (disch:=try exact dx) only[wpS,wpT,zE,zL,zA,ba,aj,aC]
  exact⟨((E0.trans X25).trans X68).put (by omega) _,rfl⟩
 ·have iw : ¬InW (w:Int):=by unfold InW;omega
  rw[if_neg iw,if_neg fit]
  simp -dsimp (disch:=try exact dx) only[wpS,wpT,zE,zL,zA,cj,w5,aM,aj,ay,aO]
  refine⟨by repeat' first|refine aN ?_ ?_|refine aI ?_ ?_|exact ak rfl rfl rfl rfl (aJ (H0:=H5) rfl (by omega) (by assumption) (by assumption) (by with_reducible assumption)),?_⟩
  simp -dsimp (disch:=try exact dx) only[wpS,wpT,zE,zL,zA,ba,aj,aC]
  exact⟨((E0.trans X25).trans X68).put (by omega) _,rfl⟩
theorem Em {h:IH} {v:Value} {l:List (Nat×Nat)} (hv:iM h v l) (hS:nnR l) (hl:l.length≤60) :
  WV prog (.func (.func 143) #[] #[]) [v] h fun r h'=>Ext h h'∧(Ek l → ∃out,r=.tuple #[out,KI 0]∧iA h' out (wL l))∧(¬Ek l→r=.tuple #[.slice none 0 0,KI 6]):=by
 refine enter (nt:=37) (rs:=[.tmp 2,.tmp 3]) Proofs.Tryz.func143 rfl rfl rfl (by simp) ?_
 simp -dsimp (disch:=try exact dx) only[wpS]
 refine call (jU 1 ⟨by omega,by omega⟩) ?_
 rintro _ h1 ⟨X1,p1⟩
 have m1:=X1.n
 obtain⟨s1,n1,rfl,c3,o3,_,_⟩:=p1.form
 simp -dsimp (disch:=try exact dx) only[wpS,wpT,zE,zL,zA,fU,dI,o3,hv.1.len rJ]
 have E2:Ext h1 ((h1.new (.cells [.bool false,.slice none 0 0] 0 none)).put h1.n (.cells [.bool false,s1] 0 none)):=((Ext.refl h1).new _).put (Nat.le_refl _) _
 have EE:=X1.trans E2
 refine loop (fun m fr hh => ∃(i:Nat) (t:Value),i+m=l.length∧Ext h hh∧h1.n<hh.n∧hh.ext.get h1.n=some (.cells [.bool false,t] 0 none)∧bq hh (.agg #[.bool false,t]) ((jZ l i:Nat):Int)∧ah fr 0=some v∧ah fr 4=some (ptr (2*h1.n) 0)∧ah fr 11=some v∧ah fr 12=some (KN l.length)∧ah fr 13=some (KN i)) l.length
  ⟨0,s1,by omega,EE,by simp,by simp (disch:=try exact dx) only[ad],p1.ab E2.ab,by simp,by simp,by simp,by simp,by simp⟩ ?_
 rintro m fr hh ⟨i,t,him,hE,hn,g4,pt,f0,f4,f18,f19,f20⟩
 have hnn:=hE.n
 simp -dsimp (disch:=try exact dx) only[wpS,f19,f20]
 refine ax ?_ ?_<;>intro hc<;>simp only[decide_eq_true_eq,decide_eq_false_iff_not] at hc
 ·have hi:i<l.length:=by omega
  obtain⟨p,hp⟩ : ∃p,l[i]?=some p:=⟨_,List.getElem?_eq_getElem hi⟩
  have pw:=hv.2.2 p (List.mem_of_getElem? hp)
  obtain⟨pa,pb,pc⟩:=hS p (List.mem_of_getElem? hp)
  have lp:=xj hS (i:=i) (by omega)
  have hL:=xE hS (i:=i) (by omega) (by omega)
  have hL1:=xE hS (i:=i+1) (by omega) (by omega)
  have hD:=Lk pw.2
  simp -dsimp (disch:=try exact dx) only[wpS,wpT,zE,zL,zA,mi,jr,qV,ba,f18,f20,hv.1.idx sK hi,hv.ld hE.ab hp,aV,aH,cU,dX,iT]
  obtain⟨H0,hH0⟩ : ∃H,H=(hh.new (.cells Z16 0 none)).put hh.n (.cells (shC p.1 p.2) 0 none):=⟨_,rfl⟩
  have E0:Ext hh H0:=by rw[hH0];exact((Ext.refl hh).new _).put (Nat.le_refl _) _
  have n0:H0.n=hh.n+1:=by rw[hH0];rfl
  rw[←hH0]
  clear hH0
  refine call (fN p.2 pw.2) ?_
  rintro _ h2 ⟨X2,p2⟩
  have m2:=X2.n
  rw[gX pc] at p2
  obtain⟨s2,n2,rfl,c2,o2,_,_⟩:=p2.form
  have d2:decide (((p.2:Nat):Int)<0)=false:=decide_eq_false (by omega)
  rw[d2] at p2 ⊢
  obtain⟨H2,hH2⟩ : ∃H,H=(h2.new (.cells ZL 0 none)).put h2.n (.cells [.bool false,s2] 0 none):=⟨_,rfl⟩
  have e2:Ext h2 H2:=by rw[hH2];exact((Ext.refl h2).new _).put (Nat.le_refl _) _
  have k2:H2.n=h2.n+1:=by rw[hH2];rfl
  have q7:H2.ext.get h2.n=some (.cells [.bool false,s2] 0 none):=by rw[hH2];simp (disch:=try exact dx) only[ad]
  have X02:=(E0.trans X2).trans e2
  have q4:=X02.kept (by omega) g4
  simp -dsimp (disch:=try exact dx) only[wpS,wpT,zE,zL,zA,fU,dI,o2]
  rw[←hH2]
  clear hH2
  have Y0:=Ext.refl H2
  have M1:=pl2 q7
  have M2:=pl2 q4
  refine drawn [(0,[4])] (by kernel_rfl) (by kernel_rfl) rfl ?_
  simp -dsimp (disch:=try exact dx) only[wpS,wpT,zE,zL,zA,bh,f4,ai q7,ai q4,HT]
  refine call (qJ (pt.ab X02.ab) (p2.ab e2.ab) hL.small hD.small) ?_
  rintro _ h3 ⟨X3,p3⟩
  have m3:=X3.n
  obtain⟨s3,n3,rfl,c3',o3',_,_⟩:=p3.form
  simp -dsimp (disch:=try exact dx) only[wpS,wpT,zE]
  have gp0:0<Nat.gcd (jZ l i) p.2:=Nat.gcd_pos_of_pos_left _ lp.1
  have hG:ku ((Int.gcd ((jZ l i:Nat):Int) ((p.2:Nat):Int):Nat):Int):=by
   rw[Int.gcd_natCast_natCast]
   exact xD (Nat.le_of_dvd pb (Nat.gcd_dvd_right _ _)) hD
  have gne:((Int.gcd ((jZ l i:Nat):Int) ((p.2:Nat):Int):Nat):Int)≠0:=by
   rw[Int.gcd_natCast_natCast]
   omega
  refine call (pB (p2.ab (e2.trans X3).ab) p3 hD.small hG.small gne) ?_
  rintro _ h4 ⟨X4,q,u,rfl,pq,pu⟩
  have m4:=X4.n
  have X34:=X3.trans X4
  obtain⟨Q,hQ⟩ : ∃Q:Nat,Q=p.2 / Nat.gcd (jZ l i) p.2:=⟨_,rfl⟩
  have eQ:((p.2:Nat):Int) / ((Int.gcd ((jZ l i:Nat):Int) ((p.2:Nat):Int):Nat):Int)=(Q:Int):=by rw[hQ,Int.gcd_natCast_natCast,Int.natCast_ediv]
  have eL:=NQ (jZ l i) p.2
  rw[eQ,←pG hp] at eL
  rw[eQ] at pq
  have hQh:ku ((Q:Nat):Int):=xD (by rw[hQ];exact Nat.div_le_self _ _) hD
  obtain⟨s4,n4,rfl,c4,o4,_,_⟩:=pq.form
  obtain⟨s5,n5,rfl,c5,o5,_,_⟩:=pu.form
  have d4:decide ((Q:Int)<0)=false:=decide_eq_false (by omega)
  rw[d4] at pq
  simp -dsimp (disch:=try exact dx) only[wpS,wpT,zE,zL,zA,fU,dI,o4,o5,d4]
  refine⟨by repeat' first|refine aN ?_ ?_|refine aI ?_ ?_|exact ak rfl rfl rfl rfl (aJ (H0:=H2) rfl (by omega) (by assumption) (by assumption) (by with_reducible assumption)),?_⟩
  obtain⟨H5,hH5⟩ : ∃H,H=(((h4.new (.cells ZL 0 none)).new (.cells ZL 0 none)).put h4.n (.cells [.bool false,s4] 0 none)).put (h4.n+1) (.cells [.bool false,s5] 0 none):=⟨_,rfl⟩
  have E5:Ext h4 H5:=by rw[hH5];exact((((Ext.refl h4).new _).new _).put (by omega) _).put (by omega) _
  have n5:H5.n=h4.n+2:=by rw[hH5];rfl
  have k8:H5.ext.get h4.n=some (.cells [.bool false,s4] 0 none):=by rw[hH5];simp (disch:=try exact dx) only[ad,ae]
  have X25:=X34.trans E5
  have k4:=X25.kept (by omega) q4
  simp -dsimp (disch:=try exact dx) only[wpS,wpT,zE,zA]
  rw[←hH5]
  clear hH5
  simp -dsimp (disch:=try exact dx) only[wpS,wpT,zE,zL,zA,bh,f4,ai k4,ai k8,HT]
  refine call (dL (pt.ab (X02.trans X25).ab) (pq.ab E5.ab) hL hQh) ?_
  rintro _ h6 ⟨X6,p6⟩
  have m6:=X6.n
  rw[eL] at p6
  obtain⟨s6,n6,rfl,c6,o6,_,_⟩:=p6.form
  have d6:decide (((jZ l (i+1):Nat):Int)<0)=false:=decide_eq_false (by omega)
  rw[d6] at p6 ⊢
  have gk:=X6.kept (by omega) k4
  simp -dsimp (disch:=try exact dx) only[wpS,wpT,zE,zL,zA,dI,f4,f20,gk,o6]
  exact⟨m - 1,by omega,i+1,s6,by omega,(hE.trans ((X02.trans X25).trans X6)).put (by omega) _,by simp;omega,by simp (disch:=try exact dx) only[ad],p6.ab ((aF.refl _).put gk _),by simp[f0],by simp[f4],by simp[f18],by simp[f19],by simp⟩
 ·obtain rfl:i=l.length:=by omega
  have hL:=xE hS (Nat.le_refl l.length) (by omega)
  obtain⟨cv,co⟩:=hv.co
  simp -dsimp (disch:=try exact dx) only[wpS,wpT,zE,f0,f4]
  refine call (En (hv.ab hE.ab) (fun p=>p.1*(jZ l l.length / p.2)) (by omega) (fun h1' j p X hp=>?_)) ?_
  ·have pw:=hv.2.2 p (List.mem_of_getElem? hp)
   exact Ci (X.kept hn g4) (by have:=X.n;omega) (pt.ab X.ab) hL pw (hS p (List.mem_of_getElem? hp))
  rintro r h2 ⟨X2,q1,q2⟩
  have E02:=hE.trans X2
  by_cases c : ∀p∈l,p.1*(jZ l l.length / p.2)<H8
  ·obtain⟨out,rfl,hw⟩:=q1 c
   have wf:Ek l:=fun w hw=>by
    obtain⟨p,hp,rfl⟩:=List.mem_map.1 hw
    exact c p hp
   simp -dsimp (disch:=try exact dx) only[wpS,zE]
   exact⟨E02,fun _=>⟨out,rfl,hw⟩,fun hn=>absurd wf hn⟩
  ·obtain rfl:=q2 c
   have wf : ¬Ek l:=fun hf=>c fun p hp=>hf _ (List.mem_map.2 ⟨p,hp,rfl⟩)
   simp -dsimp (disch:=try exact dx) only[wpS,zE]
   exact⟨E02,fun hf=>absurd hf wf,fun _=>trivial⟩
end Go.Id

namespace Go.Id
open Go
structure nS (z:Nat) (h h':IH):Prop where
 n:h.n≤h'.n
 base:h'.base=h.base
 get : ∀k c f,k<h.n→h.ext.get k=some (.cells c z f) → ∃f',h'.ext.get k=some (.cells c z f')
theorem nS.refl (z:Nat) (h:IH):nS z h h:=⟨Nat.le_refl _,rfl,fun _ _ f _ hg=>⟨f,hg⟩⟩
theorem nS.put {z:Nat} {a b:IH} (g:nS z a b) {k e:Nat} {cs:List Value} {f:Option Nat} (hk:b.ext.get k=some (.cells cs e f)) (he:e≠z) (o:bB):nS z a (b.put k o):=⟨g.n,g.base,fun j c f1 hj hg=>by
 obtain⟨f2,h2⟩:=g.get j c f1 hj hg
 refine⟨f2,?_⟩
 rw[hH,if_neg]
 ·exact h2
 ·rintro rfl;rw[hk] at h2;cases h2;exact he rfl⟩
theorem bI.qk {h h':IH} {sz:Nat} {v:Value} {n:Nat} {cs:List Value} (s:bI h sz v n cs) (e:nS sz h h'):bI h' sz v n cs:=by
 obtain⟨hz,hl,s|⟨b,o,k,rfl,s⟩⟩:=s
 ·exact⟨hz,hl,.inl s⟩
 ·refine⟨hz,hl,.inr ⟨b,o,k,rfl,s.imp id fun⟨a1,a2,row,a3,h1,h2,h3⟩=>?_⟩⟩
  rcases a3 with a3|⟨a4,a5,f,a6⟩
  ·refine⟨a1,a2,row,.inl a3,?_,h2,h3⟩
   rw[←h1];simp[IH.row,a3.1,e.base]
  ·obtain⟨f',h4⟩:=e.get (b / 2) row f (by omega) a6
   refine⟨a1,a2,row,.inr ⟨a4,by have:=e.n;omega,f',h4⟩,?_,h2,h3⟩
   simp only[IH.row,cond_eq_ite,beq_iff_eq]
   rw[if_neg (by omega)]
   simp only[h4]
structure re (h:IH) (z k:Nat) (v:Value) (n:Nat) (cs:List Value):Prop where
 form:v=.slice (some ⟨2*k,0,none⟩) n (2*n+1)
 len:cs.length=n*z
 size:0<z
 some_:0<n
 old:k<h.n
 got:h.ext.get k=some (.cells cs z none)
theorem re.sl {h:IH} {z k:Nat} {v:Value} {n:Nat} {cs:List Value} (r:re h z k v n cs):bI h z v n cs:=by
 obtain⟨rfl,l,hz,hn,hk,hg⟩:=r
 exact cV hg hk hz l (by omega) (by omega)
theorem re.ext {h h':IH} {z k:Nat} {v:Value} {n:Nat} {cs:List Value} (r:re h z k v n cs) (e:Ext h h'):re h' z k v n cs :=
 ⟨r.form,r.len,r.size,r.some_,Nat.lt_of_lt_of_le r.old e.n,(e.get k r.old).trans r.got⟩
theorem re.put {h:IH} {z k:Nat} {v:Value} {n:Nat} {cs:List Value} (r:re h z k v n cs) {j:Nat} {c:List Value} {f:Option Nat} (hj:h.ext.get j=some (.cells c 0 f)) (o:bB):re (h.put j o) z k v n cs :=
 ⟨r.form,r.len,r.size,r.some_,r.old,by
  rw[hH,if_neg]
  ·exact r.got
  ·rintro rfl;have h1:=r.got;have h2:=r.size;rw[hj] at h1;cases h1;omega⟩
theorem M8 {cs xs:List Value} {i:Nat} (h:i+xs.length≤cs.length):(IH.aD cs i xs).length=cs.length:=by
 simp only[IH.aD,List.length_append,List.length_take,List.length_drop];omega
theorem re.set {h:IH} {z k:Nat} {v:Value} {n:Nat} {cs:List Value} (r:re h z k v n cs) {P:Program} {t:TypeId} (hT:aP P t=some z) {i:Nat} (hi:i<n) {x:Value} {xs:List Value} (hx:x.cells.toList=xs) (hxl:xs.length=z) (hc:xs.all aG=true) :
  store P h t (aK v (i*z)) x=some (h.put k (.cells (IH.aD cs (i*z) xs) z none))∧re (h.put k (.cells (IH.aD cs (i*z) xs) z none)) z k v n (IH.aD cs (i*z) xs):=by
 obtain⟨rfl,hl,hz,hn,hk,hg⟩:=r
 have hle:i*z+z≤cs.length:=by
  rw[hl,←Nat.succ_mul];exact Nat.mul_le_mul_right _ hi
 have k2:2*k / 2=k:=by omega
 have k1:(2*k % 2 == 1)=false:=by simp
 have hsx:x.cells.size=z:=by rw[←Array.length_toList,hx,hxl]
 have hst:store P h t (aK (.slice (some ⟨2*k,0,none⟩) n (2*n+1)) (i*z)) x=h.wr (2*k) (i*z) xs:=by
  simp only[aK,Nat.zero_add,store,asAddr,ptr,hT,hx,hsx,hc,beq_self_eq_true,Bool.and_self,cond_true]
 have UB:Nat.ble (i*z+xs.length) cs.length=true:=by rw[Nat.ble_eq,hxl];exact hle
 refine⟨?_,rfl,by rw[M8 (by omega)];exact hl,hz,hn,hk,ad _ _ rfl⟩
 rw[hst]
 simp only[IH.wr,k1,k2,hg,UB,cond_true,cond_false];rfl
theorem JY {cs xs:List Value} {i z:Nat} (hx:xs.length=z) (h:i*z+z≤cs.length):((IH.aD cs (i*z) xs).drop (i*z)).take z=xs:=by
 simp only[IH.aD]
 rw[List.drop_append,List.drop_of_length_le (by rw[List.length_take];omega),List.nil_append,List.length_take,Nat.min_eq_left (by omega),Nat.sub_self,List.drop_zero,List.take_append_of_le_length (by omega),List.take_of_length_le (by omega)]
theorem HW {cs xs:List Value} {i j z:Nat} (hx:xs.length=z) (h:i*z+z≤cs.length) (hj:j≠i):((IH.aD cs (i*z) xs).drop (j*z)).take z=(cs.drop (j*z)).take z:=by
 rcases Nat.lt_or_gt_of_ne hj with hlt|hgt
 ·have e:j*z+z≤i*z:=by rw[←Nat.succ_mul];exact Nat.mul_le_mul_right _ hlt
  simp only[IH.aD]
  apply List.ext_getElem?
  intro q
  rw[List.getElem?_take,List.getElem?_take]
  split
  ·rw[List.getElem?_drop,List.getElem?_drop,List.getElem?_append_left (by rw[List.length_take];omega),List.getElem?_take,if_pos (by omega)]
  ·rfl
 ·have e:i*z+z≤j*z:=by rw[←Nat.succ_mul];exact Nat.mul_le_mul_right _ hgt
  simp only[IH.aD]
  apply List.ext_getElem?
  intro q
  rw[List.getElem?_take,List.getElem?_take]
  split
  ·rw[List.getElem?_drop,List.getElem?_drop,List.getElem?_append_right (by rw[List.length_take];omega),List.getElem?_append_right (by rw[List.length_take];omega),List.getElem?_drop,List.length_take,Nat.min_eq_left (by omega)]
   congr 1;omega
  ·rfl
def kG (R:IH→Value→Rat→Prop) (h:IH) (cs:List Value) (j:Nat) (q:Rat):Prop:=∃a s b t,(cs.drop (j*4)).take 4 = [a,s,b,t]∧R h (.agg #[a,s,b,t]) q
theorem kG.mono {R:IH→Value→Rat→Prop} {h h':IH} {cs:List Value} {j:Nat} {q:Rat} (x:kG R h cs j q) (k : ∀v,R h v q→R h' v q):kG R h' cs j q:=let ⟨a,s,b,t,h1,h2⟩:=x;⟨a,s,b,t,h1,k _ h2⟩
theorem kG.set {R:IH→Value→Rat→Prop} {h:IH} {cs:List Value} {i:Nat} {q:Rat} {a s b t:Value} (hi:i*4+4≤cs.length) (r:R h (.agg #[a,s,b,t]) q):kG R h (IH.aD cs (i*4) [a,s,b,t]) i q:=⟨a,s,b,t,JY rfl hi,r⟩
theorem kG.other {R:IH→Value→Rat→Prop} {h:IH} {cs:List Value} {i j:Nat} {q:Rat} {a s b t:Value} (x:kG R h cs j q) (hi:i*4+4≤cs.length) (hj:j≠i):kG R h (IH.aD cs (i*4) [a,s,b,t]) j q:=by
 obtain⟨a',s',b',t',h1,h2⟩:=x
 exact⟨a',s',b',t',by rw[HW (z:=4) rfl hi hj];exact h1,h2⟩
theorem HE {R:IH→Value→Rat→Prop} {h:IH} : ∀{l:List Rat} {cs:List Value},cs.length=l.length*4→(∀j q,l[j]?=some q→kG R h cs j q)→lT R h l cs
 | [],cs,hl,_=>List.length_eq_zero_iff.1 (by simpa using hl)
 | q :: l,cs,hl,H=>by
  obtain⟨a,s,b,t,h1,h2⟩:=H 0 q rfl
  rw[Nat.zero_mul,List.drop_zero] at h1
  refine⟨a,s,b,t,cs.drop 4,?_,h2,HE (by rw[List.length_drop,hl,List.length_cons];omega) fun j p hj=>?_⟩
  ·have:=List.take_append_drop 4 cs
   rw[h1] at this
   exact this.symm
  ·obtain⟨a',s',b',t',h3,h4⟩:=H (j+1) p hj
   refine⟨a',s',b',t',?_,h4⟩
   rw[List.drop_drop,←h3]
   congr 2;omega
theorem yZ.nR {R:IH→Value→Rat→Prop} (k:Kept R) {h:IH} {v:Value} {l:List Rat} (s:yZ R h v l) {i:Nat} {q:Rat} (hi:l[i]?=some q) {P:Program} {t:TypeId} (hT:aY P t=some true) (hS:aP P t=some 4) :
  ∃a s b u,(∀h',aF h h'→load P h' t (aK v (i*4))=some (.agg #[a,s,b,u]))∧R h (.agg #[a,s,b,u]) q:=by
 obtain⟨cs,hs,hc,hl⟩:=s
 have hil:=(List.getElem?_eq_some_iff.1 hi).1
 have hcl:=hc.len
 obtain⟨a,s,b,u,e1,r⟩:=hc.at hi
 exact⟨a,s,b,u,fun h' e=>by rw[hs.Dg e (by omega) (by omega) hT hS,e1],r⟩
end Go.Id

namespace Go.Id
open Go
open Go.Proofs.Tryz (prog)
open Nat renaming reduceAdd→zA,reduceEqDiff→zE,reduceLeDiff→zL
set_option maxHeartbeats 16000000
def qE (a:Nat):Nat:=if a<H8 then a+H8 else a - H8
theorem F9 {a:Nat} (ha:a<W8):qE a<W8:=by
 have:=bV;unfold qE;split<;>omega
theorem Ch {a:Nat} (ha:a<W8):((qE a:Nat):Int)=wdI a+H8:=by
 have:=bV;unfold qE wdI;split<;>omega
theorem Cg {a:Nat} (ha:a<W8) : ∃w:Nat,(∀ox oy,binop prog .xor 28 ox oy (K64 (wrd a 7)) (.int .u64 9223372036854775808)=some (K64 w))∧IH.aD (wdC a) 7 [K64 w]=wdC (qE a):=by
 by_cases c:a<H8
 ·refine⟨wrd a 7+9223372036854775808,fun ox oy=>?_,?_⟩
  ·rw[←vh (rh c)];exact gV _ _ ox oy _ 9223372036854775808 (qB a 7) (by decide)
  ·rw[qE,if_pos c];exact vj c
 ·have h2:=bV
  obtain⟨b,hb⟩ : ∃b,b=a - H8:=⟨_,rfl⟩
  have hb8:b<H8:=by omega
  have ea:b+H8=a:=by omega
  have key:=vj hb8
  rw[ea] at key
  have lt:=rh hb8
  have e7:wrd a 7=wrd b 7+9223372036854775808:=by
   have g:=bF a 7 (by omega)
   rw[←key,fX (by rw[aj];omega),List.getElem?_set_self (by rw[aj];omega)] at g
   injection g with g
   injection g with _ g
   omega
  refine⟨wrd b 7,fun ox oy=>?_,?_⟩
  ·have ex:(wrd b 7+9223372036854775808) ^^^ 9223372036854775808=wrd b 7:=by
    rw[←vh lt,Nat.xor_assoc,Nat.xor_self,Nat.xor_zero]
   have:=gV prog 28 ox oy (wrd b 7+9223372036854775808) 9223372036854775808 (by omega) (by decide)
   rw[ex] at this
   rw[e7];exact this
  ·rw[←key,fX (n:=7) (cs:=wdC b) (by rw[aj];omega),fX (by rw[List.length_set,aj];omega),List.set_set,qE,if_neg c,←hb]
   apply List.ext_getElem?
   intro j
   by_cases hj:7=j
   ·subst hj
    rw[List.getElem?_set_self (by rw[aj];omega),bF b 7 (by omega)]
   ·rw[List.getElem?_set_ne hj]
theorem vT {h:IH} (a b:Nat) (ha:a<W8) (hb:b<W8):WV prog (.func (.func 148) #[] #[]) [wdV a,wdV b] h fun r h'=>Ext h h'∧r=KI (if wdI a<wdI b then -1 else if wdI a=wdI b then 0 else 1):=by
 have j7:nP 7 8=some 7:=rfl
 have ga:=bF a 7 (by omega)
 have gb:=bF b 7 (by omega)
 obtain⟨wa,xa,sa⟩:=Cg ha
 obtain⟨wb,xb,sb⟩:=Cg hb
 obtain⟨H0,hH0,n0,E0,k0,k1⟩:=gl h (wdC a) (wdC b)
 refine enter (nt:=16) (rs:=[.tmp 4]) Proofs.Tryz.func148 rfl rfl rfl (by simp) ?_
 simp -dsimp (disch:=try exact dx) only[wpS,zE,zA,kS,aM]
 rw[←hH0]
 clear hH0
 simp -dsimp (disch:=try exact dx) only[wpS,wpT,zE,zL,zA,kS,jY,mb,ba,ai k0,ai k1,k0,k1,kS,j7,ga,gb,xa,xb,aj,sa,sb,aC]
 refine call (kL (qE a) (qE b) (F9 ha) (F9 hb)) ?_
 rintro _ h1 ⟨X1,rfl⟩
 have ta:=Ch ha
 have tb:=Ch hb
 have e:(if qE a<qE b then (-1:Int) else if qE a=qE b then 0 else 1)=if wdI a<wdI b then -1 else if wdI a=wdI b then 0 else 1:=by
  by_cases c1:wdI a<wdI b
  ·rw[if_pos c1,if_pos (by omega)]
  ·rw[if_neg c1,if_neg (by omega)]
   by_cases c2:wdI a=wdI b
   ·rw[if_pos c2,if_pos (by omega)]
   ·rw[if_neg c2,if_neg (by omega)]
 rw[e]
 have EE:Ext h ((H0.put h.n (.cells (wdC (qE a)) 0 none)).put (h.n+1) (.cells (wdC (qE b)) 0 none)):=(E0.put (Nat.le_refl _) _).put (by omega) _
 simp -dsimp (disch:=try exact dx) only[wpS,wpT,zE]
 exact EE.trans X1
theorem RP {H:IH} {k n:Nat} (g:H.ext.get k=some (.cells (wdC n) 0 none)):load prog H 30 (ptr (2*k) 0)=some (wdV n):=by
 have r:=ai g
 simp -dsimp (disch:=try exact dx) only[wpS,zL,ba,r,aj,aC]
 rfl
theorem KV {h:IH} {least:Int} {n b:Nat} (hn:n<W8) (hl:dH least) (hb:b<h.n) (g:h.ext.get b=some (.cells [KI least] 0 none)) :
  WV prog (.func (.func 176) #[] #[ptr (2*b) 0]) [wdV n] h fun r h'=>Ext h h'∧r=.bool (decide (wdI n<least)):=by
 obtain⟨H0,hH0⟩ : ∃H,H=h.new (.cells (wdC n) 0 none):=⟨_,rfl⟩
 have E0:Ext h H0:=by rw[hH0];exact(Ext.refl h).new _
 have n0:H0.n=h.n+1:=by rw[hH0];rfl
 have k0:H0.ext.get h.n=some (.cells (wdC n) 0 none):=by rw[hH0];simp (disch:=try exact dx) only[aa]
 have k1:=E0.kept hb g
 refine enter (nt:=9) (rs:=[.tmp 3]) Proofs.Tryz.func176 rfl rfl rfl (by simp) ?_
 simp -dsimp (disch:=try exact dx) only[wpS,zE,zA,aM]
 rw[←hH0]
 clear hH0
 have X0:=Ext.refl H0
 have L1:=RP k0
 have L2:=Fe k1
 refine drawn [(0,[3])] (by kernel_rfl) (by kernel_rfl) rfl ?_
 simp -dsimp (disch:=try exact dx) only[wpS,zE,ld3,L1,ai k1]
 refine call (kU least hl) ?_
 rintro _ h1 ⟨X1,rfl⟩
 have m1:=X1.n
 simp -dsimp (disch:=try exact dx) only[wpS,zE]
 refine call (vT n (aU least) hn (fk (qn hl))) ?_
 rintro _ h2 ⟨X2,rfl⟩
 have X12:=X1.trans X2
 rw[cK (qn hl)]
 by_cases c:wdI n<least
 ·rw[if_pos c,decide_eq_true c]
  simp -dsimp (disch:=try exact dx) only[wpS,wpT,zE]
  refine⟨by repeat' first|refine aN ?_ ?_|refine aI ?_ ?_|exact ak rfl rfl rfl rfl (aJ (H0:=H0) rfl (by omega) (by assumption) (by assumption) (by with_reducible assumption)),?_⟩
  simp -dsimp (disch:=try exact dx) only[wpS,wpT,zE,zA]
  exact E0.trans X12
 ·rw[if_neg c,decide_eq_false c]
  obtain⟨z,hz,hz0⟩ : ∃z:Int,(if wdI n=least then (0:Int) else 1)=z∧0≤z:=⟨_,rfl,by split<;>omega⟩
  rw[hz]
  simp -dsimp (disch:=try exact dx) only[wpS,wpT,zE]
  refine⟨by repeat' first|refine aN ?_ ?_|refine aI ?_ ?_|exact ak rfl rfl rfl rfl (aJ (H0:=H0) rfl (by omega) (by assumption) (by assumption) (by with_reducible assumption)),?_⟩
  simp -dsimp (disch:=try exact dx) only[wpS,wpT,zE,zA]
  exact E0.trans X12
open Classical in
theorem vO {h:IH} {v F:Value} {l:List Nat} (hv:iA h v l) (B:Nat→Prop) (hF : ∀h1 p,Ext h h1→p∈l→WV prog F [wdV p] h1 fun r h2=>Ext h1 h2∧r=.bool (decide (B p))) :
  WV prog (.func (.func 78) #[] #[]) [v,F] h fun r h'=>Ext h h'∧r=.bool (decide (∃p∈l,B p)):=by
 have hlb:=hv.2.1
 have Qu:WV prog (.func (.func 171) #[] #[]) [v,F] h fun r h'=>Ext h h' ∧ ∃c:Int,r=KI c∧(0≤c ↔ ∃p∈l,B p):=by
  refine enter (nt:=19) (rs:=[.tmp 4]) Proofs.Tryz.func171 rfl rfl rfl (by simp) ?_
  simp -dsimp (disch:=try exact dx) only[wpS,zE,zA,hv.1.len rK]
  refine loop (fun m fr h1 => ∃i:Nat,i+m=l.length∧Ext h h1∧(∀(j:Nat) p,j<i→l[j]?=some p → ¬B p)∧ah fr 0=some v∧ah fr 1=some F∧ah fr 7=some (KN l.length)∧ah fr 8=some (KN i)) l.length
   ⟨0,by omega,Ext.refl _,fun j p hj=>by omega,by simp,by simp,by simp,by simp⟩ ?_
  rintro m fr h1 ⟨i,him,hE,hno,f0,f1,f7,f8⟩
  simp -dsimp (disch:=try exact dx) only[wpS,f7,f8]
  refine ax ?_ ?_<;>intro hc<;>simp only[decide_eq_true_eq,decide_eq_false_iff_not] at hc
  ·have hi:i<l.length:=by omega
   obtain⟨p,hp⟩ : ∃p,l[i]?=some p:=⟨_,List.getElem?_eq_getElem hi⟩
   have hpm:=List.mem_of_getElem? hp
   simp -dsimp (disch:=try exact dx) only[wpS,wpT,zE,f0,f1,f8,hv.1.idx u7 hi,hv.ld hE.ab hp]
   refine call (hF h1 p hE hpm) ?_
   rintro _ h2 ⟨hE2,rfl⟩
   have E2:=hE.trans hE2
   by_cases hk:B p
   ·rw[decide_eq_true hk]
    simp -dsimp (disch:=try exact dx) only[wpS,zE]
    exact⟨E2,(i:Int),rfl,fun _=>⟨p,hpm,hk⟩,fun _=>by omega⟩
   ·rw[decide_eq_false hk]
    simp -dsimp (disch:=try exact dx) only[wpS,zE,f8]
    refine⟨m - 1,by omega,i+1,by omega,E2,?_,by simp[f0],by simp[f1],by simp[f7],by simp⟩
    intro j q hj hq
    by_cases hji:j=i
    ·subst hji;rw[hp] at hq;cases hq;exact hk
    ·exact hno j q (by omega) hq
  ·simp -dsimp (disch:=try exact dx) only[wpS,wpT]
   refine⟨hE,-1,rfl,fun h=>by omega,fun⟨p,hp,hb⟩=>?_⟩
   obtain⟨j,hj⟩:=List.getElem?_of_mem hp
   have:=(List.getElem?_eq_some_iff.1 hj).1
   exact absurd hb (hno j p (by omega) hj)
 refine enter (nt:=9) (rs:=[.tmp 4]) Proofs.Tryz.func78 rfl rfl rfl (by simp) ?_
 simp -dsimp (disch:=try exact dx) only[wpS,zE,zA]
 refine call Qu ?_
 rintro _ h1 ⟨hE,c,rfl,hc⟩
 simp -dsimp (disch:=try exact dx) only[wpS,zE]
 exact⟨hE,by rw[decide_eq_decide.2 hc]⟩
open Classical in
theorem Bi {h:IH} {v:Value} {l:List Nat} {least:Int} (hv:iA h v l) (hl:dH least) :
  WV prog (.func (.func 89) #[] #[]) [v,KI least] h fun r h'=>Ext h h'∧r=.bool (decide (∃p∈l,wdI p<least)):=by
 have E1:Ext h (h.new (.cells [KI least] 0 none)):=(Ext.refl h).new _
 refine enter (nt:=8) (rs:=[.tmp 4]) Proofs.Tryz.func89 rfl rfl rfl (by simp) ?_
 simp -dsimp (disch:=try exact dx) only[wpS,zE,zA]
 refine call (vO (hv.ab E1.ab) (fun p=>wdI p<least) (fun h1 p hE hp=>(KV (b:=h.n) (hv.2.2 p hp) hl (by have:=hE.n;simp only[al] at this;omega) (hE.kept (by simp) (aa _ _ rfl))).mono fun r h2 ⟨a,b⟩=>⟨a,by rw[b];congr⟩)) ?_
 rintro _ h1 ⟨X1,rfl⟩
 simp -dsimp (disch:=try exact dx) only[wpS,zE]
 exact⟨E1.trans X1,by congr⟩
def kY (n:Nat):Rat:=((wdI n:Int):Rat)
theorem KU {h:IH} {v:Value} {l:List Nat} (hv:iA h v l) (hl:l.length≤1000):WV prog (.func (.func 90) #[] #[]) [v] h fun r h'=>Ext h h'∧yZ dU h' r (l.map kY):=by
 refine enter (nt:=20) (rs:=[.tmp 2]) Proofs.Tryz.func90 rfl rfl rfl (by simp) ?_
 simp -dsimp (disch:=try exact dx) only[wpS,zE,hv.1.len rK]
 refine loop (fun m fr h1 => ∃(i:Nat) (out:Value) (cs:List Value),i+m=l.length∧Ext h h1∧Acc h1 h.n 4 out ((l.take i).map kY).length cs∧lT dU h1 ((l.take i).map kY) cs∧ah fr 3=some out∧ah fr 6=some v∧ah fr 7=some (KN l.length)∧ah fr 8=some (KN i)) l.length
  ⟨0,.slice none 0 0,[],by omega,Ext.refl _,Acc.nil h _ (by omega),by simp[lT],by simp,by simp,by simp,by simp⟩ ?_
 rintro m fr h1 ⟨i,out,cs,him,hE,hA,hC,f3,f6,f7,f8⟩
 simp -dsimp (disch:=try exact dx) only[wpS,f7,f8]
 refine ax ?_ ?_<;>intro hc<;>simp only[decide_eq_true_eq,decide_eq_false_iff_not] at hc
 ·have hi:i<l.length:=by omega
  obtain⟨p,hp⟩ : ∃p,l[i]?=some p:=⟨_,List.getElem?_eq_getElem hi⟩
  have wp:=hv.2.2 p (List.mem_of_getElem? hp)
  simp -dsimp (disch:=try exact dx) only[wpS,wpT,zE,zL,zA,ba,dB,cj,f3,f6,f8,hv.1.idx u7 hi,hv.ld hE.ab hp,aM,aj,ay,aO,aC]
  have E1:Ext h1 ((h1.new (.cells [ZW,ZW,ZW,ZW,ZW,ZW,ZW,ZW] 0 none)).put h1.n (.cells (wdC p) 0 none)):=((Ext.refl h1).new _).put (Nat.le_refl _) _
  refine call (fN p wp) ?_
  rintro r1 h2 ⟨X2,p2⟩
  simp -dsimp (disch:=try exact dx) only[wpS,zE]
  refine call (rq p2) ?_
  rintro r h3 ⟨X3,p3⟩
  obtain⟨a3,s3,b3,t3,rfl,_,_,_,o1,_,o2,o3,o4⟩:=p3.parts
  have X13:=(E1.trans X2).trans X3
  have n1:=hE.n
  have n2:=X13.n
  obtain⟨bR,h5,hap,hA5,hC5,hG5,hE5⟩:=Ry Tl (by omega) tM (hA.ext X13) (hC.ab tM X13.ab) p3 (by simp[o1,o2,o3,o4]) (by simp;omega) (by omega) (hE.trans X13) (Nat.le_refl _)
  have eT:(l.take i).map kY ++ [((wdI p:Int):Rat)]=(l.take (i+1)).map kY:=by rw[gF hp,List.map_append];rfl
  rw[eT] at hA5 hC5
  simp -dsimp (disch:=try exact dx) only[wpS,wpT,zE,zL,zA,S0,Jo,f8,hap]
  exact⟨m - 1,by omega,i+1,bR,_,by omega,hE5,hA5,hC5,by simp,by simp[f6],by simp[f7],by simp⟩
 ·obtain rfl:i=l.length:=by omega
  rw[List.take_length] at hA hC
  simp -dsimp (disch:=try exact dx) only[wpS,wpT,zE,f3]
  exact⟨hE,cs,hA.sl,hC,by simp;omega⟩
end Go.Id
