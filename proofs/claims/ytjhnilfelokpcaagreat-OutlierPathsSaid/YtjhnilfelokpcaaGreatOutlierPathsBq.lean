/-
  Contracts: reference 04: Pick. Contracts: reference 34: Weights.
-/
import Derived.Test.YtjhnilfelokpcaaGreatOutlierPathsAq
import Derived.Test.YtjhnilfelokpcaaGreatOutlierPathsBp
import Derived.Test.YtjhnilfelokpcaaGreatOutlierPathsBk
set_option linter.unusedVariables false
set_option linter.unusedSimpArgs false
set_option linter.defProp false
set_option linter.deprecated false
namespace Go.Id
open Go
open Go.Proofs.Tryz (prog)
open Nat renaming reduceAdd→zA,reduceEqDiff→zE,reduceLeDiff→zL
set_option maxHeartbeats 16000000
theorem LN {H:IH} {k:Nat} {s:Value} (g:H.ext.get k=some (.cells [.bool false,s] 0 none)):load prog H 131 (ptr (2*k) 0)=some (.agg #[.bool false,s]):=ql2 g
theorem uz {n:Nat} (hn:n<W8):fF (n:Int):=by
 have hw:W8=2 ^ 512:=by decide +kernel
 exact nL (k:=512) (by omega) (by omega)
set_option maxRecDepth 100000 in
theorem LF {h:IH} {v:Value} {l:List Nat} {s:Nat} (hv:Au h v l) (hl:l.length≤400) (hs:ck l l.length<H8) (h0:0<ck l l.length) (hst:s<18446744073709551616) :
  WV prog (.func (.func 87) #[] #[]) [chV s,v] h fun r h'=>Ext h h'∧r=BE l s:=by
 have w8:ck l l.length<W8:=by have:=cC;omega
 obtain⟨H0,hH0⟩ : ∃H,H=(h.new (.cells [K64 s] 0 none)).new (.cells [.int .u64 0] 0 none):=⟨_,rfl⟩
 have n0:H0.n=h.n+2:=by rw[hH0];rfl
 have E0:Ext h H0:=by rw[hH0];exact((Ext.refl h).new _).new _
 have c2:H0.ext.get h.n=some (.cells [K64 s] 0 none):=by rw[hH0];simp (disch:=try exact dx) only[ab,ar]
 have c5:H0.ext.get (h.n+1)=some (.cells [.int .u64 0] 0 none):=by rw[hH0];simp (disch:=try exact dx) only[ab]
 have hlen:=hv.1.len Ok (P:=prog)
 have pl : ∀(i p:Nat),l[i]?=some p→p<W8∧wdI p=(p:Int):=fun i p hp=>by
  have:=yB l hp
  exact⟨hv.2.2 p (List.mem_of_getElem? hp),jR (by omega)⟩
 refine enter (nt:=91) (rs:=[.tmp 4,.cell 5 63,.tmp 6]) Proofs.Tryz.func87 rfl rfl rfl (by simp) ?_
 simp -dsimp (disch:=try exact dx) only[wpS,wpT,zE,zL,zA,jr,oo,dh,bY,chV,hlen]
 rw[←hH0]
 clear hH0
 refine loop (fun m fr hh => ∃(i:Nat),i+m=l.length∧Ext H0 hh∧ai fr 1=some v∧ai fr 2=some (ptr (2*h.n) 0)∧ai fr 5=some (ptr (2*(h.n+1)) 0)∧ai fr 7=some (KN i)) l.length
  ⟨0,by omega,Ext.refl _,by simp,by simp,by simp,by simp⟩ ?_
 rintro m fr hh ⟨i,him,hE,f1,f2,f5,f7⟩
 simp -dsimp (disch:=try exact dx) only[wpS,wpT,zE,zL,zA,oo,dh,bY,f1,f7,hlen]
 refine aA ?_ ?_<;>intro hc2<;>simp only[decide_eq_true_eq,decide_eq_false_iff_not] at hc2
 ·have hi:i<l.length:=by omega
  obtain⟨p,hp⟩ : ∃p,l[i]?=some p:=⟨_,List.getElem?_eq_getElem hi⟩
  obtain⟨pw,pi⟩:=pl i p hp
  simp -dsimp (disch:=try exact dx) only[wpS,wpT,zE,zL,zA,oo,dh,bY,f1,f7,hv.1.idx Ge hi,hv.ld (E0.trans hE).ae hp]
  refine call (EW p pw) ?_
  rintro _ h1 ⟨X1,rfl⟩
  rw[pi,if_neg (by omega)]
  obtain⟨z,hz,hz0⟩ : ∃z:Int,(if 0<(p:Int) then (1:Int) else 0)=z ∧ ¬z<0:=⟨_,rfl,by split<;>omega⟩
  rw[hz]
  simp -dsimp (disch:=try exact dx) only[wpS,wpT,zE,zL,zA,oo,dh,bY,f7,hz0,decide_false]
  exact⟨m - 1,by omega,i+1,by omega,hE.trans X1,by simp[f1],by simp[f2],by simp[f5],by simp⟩
 obtain rfl:i=l.length:=by omega
 simp -dsimp (disch:=try exact dx) only[wpS,wpT,zE,zL,zA,oo,dh,bY]
 obtain⟨H1,hH1⟩ : ∃H,H=(hh.new (.cells ZL 0 none)).put hh.n (.cells [.bool false,.slice none 0 0] 0 none):=⟨_,rfl⟩
 have E1:Ext hh H1:=by rw[hH1];exact((Ext.refl hh).new _).put (Nat.le_refl _) _
 have n1:H1.n=hh.n+1:=by rw[hH1];rfl
 have g8:H1.ext.get hh.n=some (.cells [.bool false,.slice none 0 0] 0 none):=by rw[hH1];simp (disch:=try exact dx) only[aa]
 have nE:=hE.n
 rw[←hH1]
 clear hH1
 have A1:=hE.trans E1
 refine loop (fun m fr H => ∃(i:Nat) (sS:Value),i+m=l.length∧Ext H0 H∧hh.n<H.n∧H.ext.get hh.n=some (.cells [.bool false,sS] 0 none)∧aV H (.agg #[.bool false,sS]) ((ck l i:Nat):Int)∧ai fr 1=some v∧ai fr 2=some (ptr (2*h.n) 0)∧ai fr 5=some (ptr (2*(h.n+1)) 0)∧ai fr 8=some (ptr (2*hh.n) 0)∧ai fr 9=some (KN i)) l.length
  ⟨0,.slice none 0 0,by omega,A1,by omega,g8,vC _,by simp[f1],by simp[f2],by simp[f5],by simp,by simp⟩ ?_
 clear f1 f2 f5 f7 g8
 rintro m fr H ⟨i,sS,him,hE2,lH,g8,pS,f1,f2,f5,f8,f9⟩
 simp -dsimp (disch:=try exact dx) only[wpS,zE,f1,f9,hlen]
 refine aA ?_ ?_<;>intro hc3<;>simp only[decide_eq_true_eq,decide_eq_false_iff_not] at hc3
 ·have hi:i<l.length:=by omega
  obtain⟨p,hp⟩ : ∃p,l[i]?=some p:=⟨_,List.getElem?_eq_getElem hi⟩
  obtain⟨pw,pi⟩:=pl i p hp
  have L8:=LN g8
  have X0:=Ext.refl H
  simp -dsimp (disch:=try exact dx) only[wpS,wpT]
  refine drawn [(0,[6])] (by kernel_rfl) (by kernel_rfl) rfl ?_
  simp -dsimp (disch:=try exact dx) only[wpS,wpT,zE,zL,zA,bq,f1,f8,f9,aj g8,kH,hv.1.idx Ge hi,hv.ld (E0.trans hE2).ae hp]
  refine call (mO p pw) ?_
  rintro r2 h2 ⟨X2,p2⟩
  rw[pi] at p2
  simp -dsimp (disch:=try exact dx) only[wpS,zE]
  have b1:ck l i<W8:=Nat.lt_of_le_of_lt (jE l (by omega)) w8
  refine call (oN (pS.ae X2.ae) p2 (uz b1).small (uz pw).small) ?_
  rintro _ h3 ⟨X3,p3⟩
  rw[←Int.natCast_add,←qS l hp] at p3
  obtain⟨s3,rfl,u1,u2⟩:=jk p3 (Int.natCast_nonneg _)
  have X23:=X2.trans X3
  have m3:=X23.n
  have g3:=X23.kept lH g8
  simp -dsimp (disch:=try exact dx) only[wpS,wpT,zE,zL,zA,bY,f8,g3,u2]
  refine⟨ao rfl rfl rfl rfl (aD (H0:=H) (b:=2*hh.n) (o:=0) f8 (by omega) X0 X2 L8),?_⟩
  simp -dsimp (disch:=try exact dx) only[wpS,wpT,zE,zA,f9]
  exact⟨m - 1,by omega,i+1,s3,by omega,(hE2.trans X23).put (by omega) _,by simp only[ay];omega,aa _ _ rfl,p3.ae ((aN.refl _).put g3 _),by simp[f1],by simp[f2],by simp[f5],by simp[f8],by simp⟩
 obtain rfl:i=l.length:=by omega
 obtain⟨N,hN⟩ : ∃N,N=ck l l.length:=⟨_,rfl⟩
 rw[←hN] at pS hs h0 w8
 simp -dsimp (disch:=try exact dx) only[wpS,wpT,zE,zL,zA,bq,f8,aj g8,kH]
 refine call (y8 pS) ?_
 rintro _ h2 ⟨X2,rfl⟩
 have m2:=X2.n
 have iw:InW (N:Int):=by unfold InW;omega
 have ev:pz (N:Int)=wdV N:=by show wdV (bW (N:Int))=_;rw[nA (by omega)];rfl
 rw[if_pos iw,ev]
 simp -dsimp (disch:=try exact dx) only[wpS,wpT,zE,zL,zA,bL,fo,dr,gV,aY,aq,aM,bf,aK]
 obtain⟨H3,hH3⟩ : ∃X,X=(h2.new (.cells [ZW,ZW,ZW,ZW,ZW,ZW,ZW,ZW] 0 none)).put h2.n (.cells (wdC N) 0 none):=⟨_,rfl⟩
 have E3:Ext h2 H3:=by rw[hH3];exact((Ext.refl h2).new _).put (Nat.le_refl _) _
 have n3:H3.n=h2.n+1:=by rw[hH3];rfl
 have g10:H3.ext.get h2.n=some (.cells (wdC N) 0 none):=by rw[hH3];simp (disch:=try exact dx) only[aa]
 rw[←hH3]
 clear hH3
 have A3:=(hE2.trans X2).trans E3
 have nE2:=hE2.n
 have q2:=A3.kept (by omega) c2
 have q5:=A3.kept (by omega) c5
 have hz : ∀ox oy,binop prog .eql 44 ox oy (.agg (wdC N).toArray) (.agg #[ZW,ZW,ZW,ZW,ZW,ZW,ZW,ZW])=some (.bool false):=fun ox oy=>by
  rw[eF,wdV,GZ w8 (by have:=cC;have:=jq;omega),decide_eq_false (by omega)]
 simp -dsimp (disch:=try exact dx) only[wpS,wpT,zE,zL,bL,bZ,f2,aj g10,aj q2,aq,aK,tk1,hz]
 refine call (LD w8 hst) ?_
 rintro _ h4 ⟨X4,rfl⟩
 have m4:=X4.n
 rw[AX h0 hs]
 unfold BE
 rw[←hN]
 have A4:=A3.trans X4
 have e5:=X4.kept (by omega) q5
 rcases hd:jx N s with _|⟨x,t⟩
 ·simp -dsimp (disch:=try exact dx) only[wpS,wpT,zE,zL,zA,jr,eX,dj,fo,dr,bZ,f5,chV,e5,tk1,aY,aq,aM,bf]
  exact⟨((((((E0.trans A4).new _).new _).put (by omega) _).put (by omega) _).put (by omega) _),rfl⟩
 ·obtain⟨hx,ht⟩:=mq h0 hst hd
  have l0:0<l.length:=by
   apply Classical.byContradiction
   intro hh
   have:l.length=0:=by omega
   rw[this] at hN
   simp[ck] at hN
   omega
  obtain⟨p0,hp0⟩ : ∃p,l[0]?=some p:=⟨_,List.getElem?_eq_getElem l0⟩
  obtain⟨pw0,pi0⟩:=pl 0 p0 hp0
  obtain⟨H5,hH5⟩ : ∃H,H=(((h4.new (.cells [ZW,ZW,ZW,ZW,ZW,ZW,ZW,ZW] 0 none)).new (.cells [.int .u64 0] 0 none)).put h4.n (.cells (wdC x) 0 none)).put (h4.n+1) (.cells [K64 t] 0 none):=⟨_,rfl⟩
  have E5:Ext h4 H5:=by rw[hH5];exact((((Ext.refl h4).new _).new _).put (by omega) _).put (by omega) _
  have n5:H5.n=h4.n+2:=by rw[hH5];rfl
  have k12:H5.ext.get h4.n=some (.cells (wdC x) 0 none):=by rw[hH5];simp (disch:=try exact dx) only[aa,ah]
  have k13:H5.ext.get (h4.n+1)=some (.cells [K64 t] 0 none):=by rw[hH5];simp (disch:=try exact dx) only[aa]
  have k5:=E5.kept (by omega) e5
  have A5:=A4.trans E5
  have ld0:=hv.ld (E0.trans A5).ae hp0
  have ix0:indexAddr prog 28 v (KI 0)=some (aO v 0):=hv.1.idx Ge (P:=prog) (k:=.i64) l0
  have Zp:load prog H5 44 (aO v 0)=some (wdV p0):=ld0
  simp -dsimp (disch:=try exact dx) only[wpS,wpT,zE,zL,zA,jr,dj,fo,dr,f1,chV,aY,aq,aM,bf,ix0,←hH5,Zp]
  clear hH5
  refine call (mO p0 pw0) ?_
  rintro _ h6 ⟨X6,p6⟩
  rw[pi0] at p6
  obtain⟨s6,rfl,u1,u2⟩:=jk p6 (Int.natCast_nonneg _)
  have m6:=X6.n
  simp -dsimp (disch:=try exact dx) only[wpS,wpT,zE,zL,zA,dh,bY,u2]
  obtain⟨H7,hH7⟩ : ∃H,H=(h6.new (.cells ZL 0 none)).put h6.n (.cells [.bool false,s6] 0 none):=⟨_,rfl⟩
  have E7:Ext h6 H7:=by rw[hH7];exact((Ext.refl h6).new _).put (Nat.le_refl _) _
  have n7:H7.n=h6.n+1:=by rw[hH7];rfl
  have g14:H7.ext.get h6.n=some (.cells [.bool false,s6] 0 none):=by rw[hH7];simp (disch:=try exact dx) only[aa]
  rw[←hH7]
  clear hH7
  have X67:=X6.trans E7
  have A7:=A5.trans X67
  have s1:ck l (0+1)=p0:=by rw[qS l hp0];simp[ck]
  refine loop (fun m fr H => ∃(k:Nat) (sS:Value),k+m=l.length∧Ext H0 H∧Ext H5 H∧h6.n<H.n∧H.ext.get h6.n=some (.cells [.bool false,sS] 0 none)∧aV H (.agg #[.bool false,sS]) ((ck l (k+1):Nat):Int)∧gX l x l.length 0=gX l x m k∧ck l k≤x∧ai fr 1=some v∧ai fr 5=some (ptr (2*(h.n+1)) 0)∧ai fr 12=some (ptr (2*h4.n) 0)∧ai fr 13=some (ptr (2*(h4.n+1)) 0)∧ai fr 14=some (ptr (2*h6.n) 0)∧ai fr 15=some (KN k)) l.length
   ⟨0,s6,by omega,A7,X67,by omega,g14,by rw[s1];exact p6.ae E7.ae,rfl,by simp[ck],by simp[f1],by simp[f5],by simp,by simp,by simp,by simp⟩ ?_
  clear f1 f2 f5 f8 f9 g14
  rintro m fr H ⟨k,sS,hkm,hE0,hE5,lH,gS,pS2,hpk,hsk,f1,f5,f12,f13,f14,f15⟩
  have en:=hE5.n
  have km:k<l.length:=by
   apply Classical.byContradiction
   intro hn
   obtain rfl:k=l.length:=by omega
   omega
  have r12:=hE5.kept (by omega) k12
  have sk:ck l (k+1)<W8:=Nat.lt_of_le_of_lt (jE l (show k+1≤l.length by omega)) (by rw[←hN];exact w8)
  have xw:x<W8:=by omega
  have xi:wdI x=(x:Int):=jR (by omega)
  have X0:=Ext.refl H
  have L14:=LN gS
  simp -dsimp (disch:=try exact dx) only[wpS]
  refine drawn [(0,[3])] (by kernel_rfl) (by kernel_rfl) rfl ?_
  simp -dsimp (disch:=try exact dx) only[wpS,wpT,zE,zL,zA,bL,bq,f12,f14,aj gS,aj r12,kH,aq,aK]
  refine call (mO x xw) ?_
  rintro r8 h8 ⟨X8,p8⟩
  rw[xi] at p8
  simp -dsimp (disch:=try exact dx) only[wpS,zE]
  refine call (ly (pS2.ae X8.ae) p8 (uz sk).small (uz xw).small) ?_
  rintro _ h9 ⟨X9,rfl⟩
  have X89:=X8.trans X9
  have m9:=X89.n
  have gS9:=X89.kept lH gS
  obtain⟨q,hq⟩ : ∃q,m=q+1:=⟨m - 1,by omega⟩
  rw[hq,gX] at hpk
  by_cases c:ck l (k+1)≤x
  ·rw[if_pos c] at hpk
   obtain⟨z,hz,hz0⟩ : ∃z:Int,(if ((ck l (k+1):Nat):Int)<(x:Int) then (-1:Int) else if (x:Int)<((ck l (k+1):Nat):Int) then 1 else 0)=z∧z≤0:=⟨_,rfl,by split;omega;rw[if_neg (by omega)];omega⟩
   rw[hz]
   have km1:k+1<l.length:=by
    apply Classical.byContradiction
    intro hn
    have:k+1=l.length:=by omega
    rw[this] at c
    omega
   obtain⟨p1,hp1⟩ : ∃p,l[k+1]?=some p:=⟨_,List.getElem?_eq_getElem km1⟩
   obtain⟨pw1,pi1⟩:=pl _ p1 hp1
   have A9:=hE0.trans X89
   have L9:=LN gS9
   have X90:=Ext.refl h9
   have ek:(k:Int)+1=((k+1:Nat):Int):=by omega
   simp -dsimp (disch:=try exact dx) only[wpS,wpT,zE]
   refine⟨ao rfl rfl rfl rfl (aD (H0:=H) (b:=2*h6.n) (o:=0) f14 (by omega) X0 X8 L14),?_⟩
   simp -dsimp (disch:=try exact dx) only[wpS,wpT,zE,zA,f15,ek]
   refine drawn [(0,[6])] (by kernel_rfl) (by kernel_rfl) rfl ?_
   simp -dsimp (disch:=try exact dx) only[wpS,wpT,zE,zL,zA,bq,f1,f14,aj gS9,kH,hv.1.idx Ge (P:=prog) (k:=.i64) km1,hv.ld (E0.trans A9).ae hp1]
   refine call (mO p1 pw1) ?_
   rintro r10 h10 ⟨X10,p10⟩
   rw[pi1] at p10
   simp -dsimp (disch:=try exact dx) only[wpS,zE]
   refine call (oN ((pS2.ae X89.ae).ae X10.ae) p10 (uz sk).small (uz pw1).small) ?_
   rintro _ h11 ⟨X11,p11⟩
   rw[←Int.natCast_add,←qS l hp1] at p11
   obtain⟨s3,rfl,w1,w2⟩:=jk p11 (Int.natCast_nonneg _)
   have IK:=X10.trans X11
   have m11:=IK.n
   have g11:=IK.kept (by omega) gS9
   simp -dsimp (disch:=try exact dx) only[wpS,wpT,zE,zL,zA,bY,f14,g11,w2]
   refine⟨ao rfl rfl rfl rfl (aD (H0:=h9) (b:=2*h6.n) (o:=0) f14 (by omega) X90 X10 L9),?_⟩
   simp -dsimp (disch:=try exact dx) only[wpS,wpT,zA]
   exact⟨q,by omega,k+1,s3,by omega,((hE0.trans X89).trans IK).put (by omega) _,((hE5.trans X89).trans IK).put (by omega) _,by simp only[ay];omega,aa _ _ rfl,p11.ae ((aN.refl _).put g11 _),hpk,c,by simp[f1],by simp[f5],by simp[f12],by simp[f13],by simp[f14],by simp⟩
  ·rw[if_neg c] at hpk
   obtain⟨z,hz,hz0⟩ : ∃z:Int,(if ((ck l (k+1):Nat):Int)<(x:Int) then (-1:Int) else if (x:Int)<((ck l (k+1):Nat):Int) then 1 else 0)=z∧0<z:=⟨_,rfl,by rw[if_neg (by omega),if_pos (by omega)];omega⟩
   rw[hz]
   have s5:=(hE5.trans X89).kept (by omega) k5
   have s13:=(hE5.trans X89).kept (by omega) k13
   simp -dsimp (disch:=try exact dx) only[wpS,wpT,zE]
   refine⟨ao rfl rfl rfl rfl (aD (H0:=H) (b:=2*h6.n) (o:=0) f14 (by omega) X0 X8 L14),?_⟩
   simp -dsimp (disch:=try exact dx) only[wpS,wpT,zE,zL,zA,dj,bZ,f5,f13,f15,aj s13,s5,tk1]
   exact⟨((E0.trans hE0).trans X89).put (by omega) _,by show _=Value.tuple #[KN (gX l x l.length 0),chV t,KI 0];rw[hpk];rfl⟩
end Go.Id

namespace Go.Id
open Go
open Go.Proofs.Tryz (prog)
open Nat renaming reduceAdd→zA,reduceEqDiff→zE,reduceLeDiff→zL
set_option maxHeartbeats 16000000
theorem jt.parts {h:IH} {v:Value} {l:List (Nat×Nat)} (s:jt h v l) {i:Nat} {p:Nat×Nat} (hi:l[i]?=some p) :
  ∃b o,asAddr (aO v (i*16))=some (b,o+i*16)∧(∀h',aN h h'→load prog h' 44 (ptr b (o+i*16))=some (wdV p.1))∧(∀h',aN h h'→load prog h' 44 (ptr b (o+i*16+8))=some (wdV p.2)):=by
 have hil:=(List.getElem?_eq_some_iff.1 hi).1
 have hl:=mI l
 have h16:=OA hi
 have e1:((shL l).drop (i*16)).take 8=wdC p.1:=by
  have:=congrArg (List.take 8) h16
  rw[List.take_take] at this
  rw[show min 8 16=8 from rfl] at this
  rw[this,←nO p.1 p.2,List.drop_zero]
 have e2:((shL l).drop (i*16+8)).take 8=wdC p.2:=by
  have:=congrArg (fun x=>List.take 8 (List.drop 8 x)) h16
  simp only[List.drop_take,List.take_take,List.drop_drop] at this
  rw[lT] at this
  exact this
 obtain⟨hz,hl2,⟨rfl,h0⟩|⟨b,o,k,rfl,hh⟩⟩:=id s.1
 ·omega
 ·refine⟨b,o,rfl,fun h' e=>?_,fun h' e=>?_⟩
  ·have:=s.1.JY e (c:=i*16) (m:=8) (by omega) (by omega) (P:=prog) Tk N7
   rw[e1] at this
   exact this
  ·have:=s.1.JY e (c:=i*16+8) (m:=8) (by omega) (by omega) (P:=prog) Tk N7
   rw[e2] at this
   exact this
def nnR (l:List (Nat×Nat)):Prop:=∀p∈l,p.1<H8∧0<p.2∧p.2<H8
theorem zC {l:List (Nat×Nat)} (h:nnR l) {i:Nat} (hi:i≤l.length):0<fR l i∧fR l i≤2 ^ (512*i):=by
 induction i with
 | zero=>exact⟨Nat.one_pos,Nat.one_le_two_pow⟩
 | succ i ih =>
  obtain⟨p,hp⟩ : ∃p,l[i]?=some p:=⟨_,List.getElem?_eq_getElem hi⟩
  obtain⟨a,b⟩:=ih (by omega)
  obtain⟨_,c,d⟩:=h p (List.mem_of_getElem? hp)
  rw[nV hp]
  refine⟨Nat.lcm_pos a c,Nat.le_trans (Nat.le_of_dvd (Nat.mul_pos a c) (Nat.lcm_dvd (Nat.dvd_mul_right _ _) (Nat.dvd_mul_left _ _))) ?_⟩
  rw[Nat.mul_succ,Nat.pow_add]
  refine Nat.mul_le_mul b (Nat.le_of_lt (Nat.lt_of_lt_of_le d ?_))
  rw[D0]
  exact pow2_le (a:=511) (b:=512) (by omega)
theorem F9 {l:List (Nat×Nat)} (h:nnR l) {i:Nat} (hi:i≤l.length) (hl:l.length≤1000):fF ((fR l i:Nat):Int):=aS (k:=512*i) (by rw[Int.natAbs_natCast];exact(zC h hi).2) (by omega)
def RC (l:List (Nat×Nat)):Prop:=∀w∈wL l,w<H8
set_option maxRecDepth 100000 in
theorem CU {h:IH} {v:Value} {l:List (Nat×Nat)} (hv:jt h v l) (hS:nnR l) (hl:l.length≤60) :
  WV prog (.func (.func 86) #[] #[]) [v] h fun r h'=>Ext h h'∧(RC l → ∃out,r=.tuple #[out,KI 0]∧Au h' out (wL l))∧(¬RC l→r=.tuple #[.slice none 0 0,KI 6]):=by
 have hlen:=hv.1.len (P:=prog) tP
 refine enter (nt:=76) (rs:=[.tmp 2,.tmp 3]) Proofs.Tryz.func86 rfl rfl rfl (by simp) ?_
 simp -dsimp (disch:=try exact dx) only[wpS]
 refine call (eP 1 ⟨by omega,by omega⟩) ?_
 rintro _ h1 ⟨X1,p1⟩
 obtain⟨s1,rfl,c1,o1⟩:=jk p1 (by omega)
 have m1:=X1.n
 simp -dsimp (disch:=try exact dx) only[wpS,wpT,zE,zL,zA,dh,bY,o1]
 obtain⟨H2,hH2⟩ : ∃H,H=(h1.new (.cells ZL 0 none)).put h1.n (.cells [.bool false,s1] 0 none):=⟨_,rfl⟩
 have E2:Ext h1 H2:=by rw[hH2];exact((Ext.refl h1).new _).put (Nat.le_refl _) _
 have n2:H2.n=h1.n+1:=by rw[hH2];rfl
 have g4:H2.ext.get h1.n=some (.cells [.bool false,s1] 0 none):=by rw[hH2];simp (disch:=try exact dx) only[aa]
 rw[←hH2]
 clear hH2
 refine loop (fun m fr hh => ∃(i:Nat) (t:Value),i+m=l.length∧Ext h hh∧h1.n<hh.n∧hh.ext.get h1.n=some (.cells [.bool false,t] 0 none)∧aV hh (.agg #[.bool false,t]) ((fR l i:Nat):Int)∧ai fr 0=some v∧ai fr 4=some (ptr (2*h1.n) 0)∧ai fr 5=some (KN i)) l.length
  ⟨0,s1,by omega,X1.trans E2,by omega,g4,p1.ae E2.ae,by simp,by simp,by simp⟩ ?_
 clear g4
 rintro m fr hh ⟨i,t,him,hE,hn,g4,pt,f0,f4,f5⟩
 have hnn:=hE.n
 simp -dsimp (disch:=try exact dx) only[wpS,zE,f0,f5,hlen]
 refine aA ?_ ?_<;>intro hc<;>simp only[decide_eq_true_eq,decide_eq_false_iff_not] at hc
 ·have hi:i<l.length:=by omega
  obtain⟨p,hp⟩ : ∃p,l[i]?=some p:=⟨_,List.getElem?_eq_getElem hi⟩
  obtain⟨pa,pb,pc⟩:=hS p (List.mem_of_getElem? hp)
  have pw:=hv.2.2 p (List.mem_of_getElem? hp)
  obtain⟨b,o,ad,L1,L2⟩:=hv.parts hp
  simp -dsimp (disch:=try exact dx) only[wpS,wpT,zE,tm,f0,f5,hv.1.idx xJ hi,ad,L2 hh hE.ae]
  refine call (mO p.2 pw.2) ?_
  rintro _ h3 ⟨X3,p3⟩
  rw[jR pc] at p3
  obtain⟨s3,rfl,u1,u2⟩:=jk p3 (Int.natCast_nonneg _)
  have m3:=X3.n
  simp -dsimp (disch:=try exact dx) only[wpS,wpT,zE,zL,zA,dh,bY,u2]
  obtain⟨H4,hH4⟩ : ∃H,H=(h3.new (.cells ZL 0 none)).put h3.n (.cells [.bool false,s3] 0 none):=⟨_,rfl⟩
  have E4:Ext h3 H4:=by rw[hH4];exact((Ext.refl h3).new _).put (Nat.le_refl _) _
  have n4:H4.n=h3.n+1:=by rw[hH4];rfl
  have g6:H4.ext.get h3.n=some (.cells [.bool false,s3] 0 none):=by rw[hH4];simp (disch:=try exact dx) only[aa]
  rw[←hH4]
  clear hH4
  have X34:=X3.trans E4
  have g4':=X34.kept hn g4
  have Y0:=Ext.refl H4
  have M6:=LN g6
  have hL:=F9 hS (i:=i) (by omega) (by omega)
  have hD:=uz pw.2
  have lp:=zC hS (i:=i) (by omega)
  have hgc:Int.gcd ((fR l i:Nat):Int) ((p.2:Nat):Int)=Nat.gcd (fR l i) p.2:=Int.gcd_natCast_natCast _ _
  have gp0:0<Nat.gcd (fR l i) p.2:=Nat.gcd_pos_of_pos_left _ lp.1
  have hG:fF ((Nat.gcd (fR l i) p.2:Nat):Int):=mj (Nat.le_of_dvd pb (Nat.gcd_dvd_right _ _)) hD
  refine drawn [(0,[4])] (by kernel_rfl) (by kernel_rfl) rfl ?_
  simp -dsimp (disch:=try exact dx) only[wpS,wpT,zE,zL,zA,bq,f4,aj g6,aj g4',kH]
  refine call (tq (pt.ae X34.ae) (p3.ae E4.ae) hL.small hD.small) ?_
  rintro r5 h5 ⟨X5,p5⟩
  rw[hgc] at p5
  simp -dsimp (disch:=try exact dx) only[wpS,zE]
  refine call (lq (p3.ae (E4.trans X5).ae) p5 hD.small hG.small (by omega)) ?_
  rintro _ h6 ⟨X6,q,u,rfl,pq,pu⟩
  have X56:=X5.trans X6
  have m6:=X56.n
  rw[show((p.2:Nat):Int) / ((Nat.gcd (fR l i) p.2:Nat):Int)=((p.2 / Nat.gcd (fR l i) p.2:Nat):Int) from(Int.natCast_ediv _ _).symm] at pq
  rw[show((p.2:Nat):Int) % ((Nat.gcd (fR l i) p.2:Nat):Int)=((p.2 % Nat.gcd (fR l i) p.2:Nat):Int) from(Int.natCast_emod _ _).symm] at pu
  obtain⟨sq,rfl,a1,a2⟩:=jk pq (Int.natCast_nonneg _)
  obtain⟨su,rfl,b1,b2⟩:=jk pu (Int.natCast_nonneg _)
  simp -dsimp (disch:=try exact dx) only[wpS,wpT,zE,zL,zA,dh,bY,a2,b2]
  refine⟨ao rfl rfl rfl rfl (aD (H0:=H4) (b:=2*h3.n) (o:=0) rfl (by omega) Y0 X5 M6),?_⟩
  obtain⟨H7,hH7⟩ : ∃H,H=(((h6.new (.cells ZL 0 none)).new (.cells ZL 0 none)).put h6.n (.cells [.bool false,sq] 0 none)).put (h6.n+1) (.cells [.bool false,su] 0 none):=⟨_,rfl⟩
  have E7:Ext h6 H7:=by rw[hH7];exact((((Ext.refl h6).new _).new _).put (Nat.le_refl _) _).put (Nat.le_succ _) _
  have n7:H7.n=h6.n+2:=by rw[hH7];rfl
  have g7:H7.ext.get h6.n=some (.cells [.bool false,sq] 0 none):=by rw[hH7];simp (disch:=try exact dx) only[aa,ah]
  have X47:=X56.trans E7
  have g47:=X47.kept (by omega) g4'
  simp -dsimp (disch:=try exact dx) only[wpS,wpT,zE,zA]
  rw[←hH7]
  clear hH7
  simp -dsimp (disch:=try exact dx) only[wpS,wpT,zE,zL,zA,bq,f4,aj g47,aj g7,kH]
  have hQ:fF ((p.2 / Nat.gcd (fR l i) p.2:Nat):Int):=mj (Nat.div_le_self _ _) hD
  refine call (gv (pt.ae (X34.trans X47).ae) (pq.ae E7.ae) hL hQ) ?_
  rintro _ h8 ⟨X8,p8⟩
  have eL:=JZ (fR l i) p.2
  rw[hgc,←nV hp] at eL
  rw[show((p.2 / Nat.gcd (fR l i) p.2:Nat):Int)=((p.2:Nat):Int) / ((Nat.gcd (fR l i) p.2:Nat):Int) from Int.natCast_ediv _ _,eL] at p8
  obtain⟨s8,rfl,w1,w2⟩:=jk p8 (Int.natCast_nonneg _)
  have m8:=X8.n
  have g8:=X8.kept (by omega) g47
  simp -dsimp (disch:=try exact dx) only[wpS,wpT,zE,zL,zA,bY,f4,f5,g8,w2]
  exact⟨m - 1,by omega,i+1,s8,by omega,(hE.trans ((X34.trans X47).trans X8)).put (by omega) _,by simp only[ay];omega,aa _ _ rfl,p8.ae ((aN.refl _).put g8 _),by simp[f0],by simp[f4],by simp⟩
 obtain rfl:i=l.length:=by omega
 obtain⟨L,hLL⟩ : ∃L,L=fR l l.length:=⟨_,rfl⟩
 have lp:=zC hS (Nat.le_refl l.length)
 have hL:=F9 hS (Nat.le_refl l.length) (by omega)
 rw[←hLL] at lp hL pt
 simp -dsimp (disch:=try exact dx) only[wpS,wpT]
 refine loop (fun m fr H => ∃(i:Nat) (out:Value),i+m=l.length∧Ext hh H∧Acc H hh.n 8 out i (wiL ((wL l).take i))∧(∀(j:Nat) w,j<i→(wL l)[j]?=some w→w<H8)∧ai fr 0=some v∧ai fr 4=some (ptr (2*h1.n) 0)∧ai fr 9=some out∧ai fr 10=some (KN i)) l.length
  ⟨0,.slice none 0 0,by omega,Ext.refl _,Acc.nil _ _ (by omega),fun j w hj=>by omega,by simp[f0],by simp[f4],by simp,by simp⟩ ?_
 clear f0 f4 f5
 rintro m fr H ⟨i,out,ZM,hE2,hA,hW,f0,f4,f9,f10⟩
 have hnH:=hE2.n
 have EH:=hE.trans hE2
 simp -dsimp (disch:=try exact dx) only[wpS,zE,f0,f10,hlen]
 refine aA ?_ ?_<;>intro hc2<;>simp only[decide_eq_true_eq,decide_eq_false_iff_not] at hc2
 ·have hi:i<l.length:=by omega
  obtain⟨p,hp⟩ : ∃p,l[i]?=some p:=⟨_,List.getElem?_eq_getElem hi⟩
  obtain⟨pa,pb,pc⟩:=hS p (List.mem_of_getElem? hp)
  have pw:=hv.2.2 p (List.mem_of_getElem? hp)
  obtain⟨b,o,ad,L1,L2⟩:=hv.parts hp
  have ix:=hv.1.idx xJ (P:=prog) (k:=.i64) hi
  have g4':=hE2.kept hn g4
  have X0:=Ext.refl H
  have M4:=LN g4'
  have hD:=uz pw.2
  simp -dsimp (disch:=try exact dx) only[wpS,wpT]
  refine drawn [(0,[7])] (by kernel_rfl) (by kernel_rfl) rfl ?_
  simp -dsimp (disch:=try exact dx) only[wpS,wpT,zE,zL,zA,tm,bq,f0,f4,f10,aj g4',kH,ix,ad,L2 H EH.ae]
  refine call (mO p.2 pw.2) ?_
  rintro r3 h3 ⟨X3,p3⟩
  rw[jR pc] at p3
  simp -dsimp (disch:=try exact dx) only[wpS,zE]
  refine call (lq (pt.ae (hE2.trans X3).ae) p3 hL.small hD.small (by omega)) ?_
  rintro _ h5 ⟨X5,q,u,rfl,pq,pu⟩
  obtain⟨Q,hQ⟩ : ∃Q,Q=L / p.2:=⟨_,rfl⟩
  rw[show((L:Nat):Int) / ((p.2:Nat):Int)=((L / p.2:Nat):Int) from(Int.natCast_ediv _ _).symm,←hQ] at pq
  rw[show((L:Nat):Int) % ((p.2:Nat):Int)=((L % p.2:Nat):Int) from(Int.natCast_emod _ _).symm] at pu
  obtain⟨sq,rfl,a1,a2⟩:=jk pq (Int.natCast_nonneg _)
  obtain⟨su,rfl,b1,b2⟩:=jk pu (Int.natCast_nonneg _)
  have X35:=X3.trans X5
  have m5:=X35.n
  simp -dsimp (disch:=try exact dx) only[wpS,wpT,zE,zL,zA,dh,bY,a2,b2]
  refine⟨ao rfl rfl rfl rfl (aD (H0:=H) (b:=2*h1.n) (o:=0) f4 (by omega) X0 X3 M4),?_⟩
  obtain⟨H6,hH6⟩ : ∃X,X=(((h5.new (.cells ZL 0 none)).new (.cells ZL 0 none)).put h5.n (.cells [.bool false,sq] 0 none)).put (h5.n+1) (.cells [.bool false,su] 0 none):=⟨_,rfl⟩
  have E6:Ext h5 H6:=by rw[hH6];exact((((Ext.refl h5).new _).new _).put (Nat.le_refl _) _).put (Nat.le_succ _) _
  have n6:H6.n=h5.n+2:=by rw[hH6];rfl
  have g11:H6.ext.get h5.n=some (.cells [.bool false,sq] 0 none):=by rw[hH6];simp (disch:=try exact dx) only[aa,ah]
  have X36:=X35.trans E6
  have EH6:=EH.trans X36
  simp -dsimp (disch:=try exact dx) only[wpS,wpT,zA]
  rw[←hH6]
  clear hH6
  have Y0:=Ext.refl H6
  have M11:=LN g11
  refine drawn [(6,[5])] (by kernel_rfl) (by kernel_rfl) rfl ?_
  simp -dsimp (disch:=try exact dx) only[wpS,zE,zW,f0,f10,ix,ad,L1 H6 EH6.ae]
  refine call (mO p.1 pw.1) ?_
  rintro r7 h7 ⟨X7,p7⟩
  rw[jR pa] at p7
  have Z6:=X7.kept (by omega) g11
  simp -dsimp (disch:=try exact dx) only[wpS,wpT,zE,zL,zA,bq,aj Z6,kH]
  have hQh:fF ((Q:Nat):Int):=mj (by rw[hQ];exact Nat.div_le_self _ _) hL
  refine call (gv p7 (pq.ae (E6.trans X7).ae) (uz pw.1) hQh) ?_
  rintro r8 h8 ⟨X8,p8⟩
  rw[←Int.natCast_mul] at p8
  obtain⟨w,hw⟩ : ∃w,w=p.1*Q:=⟨_,rfl⟩
  rw[←hw] at p8
  simp -dsimp (disch:=try exact dx) only[wpS,zE]
  refine call (y8 p8) ?_
  rintro _ h9 ⟨X9,rfl⟩
  have X79:=(X7.trans X8).trans X9
  have m9:=X79.n
  have ewl:(wL l)[i]?=some w:=by rw[I6 hp,←hLL,←hQ,←hw]
  have EH9:=EH6.trans X79
  by_cases c:w<H8
  ·have iw:InW (w:Int):=by unfold InW;omega
   have ev:pz (w:Int)=wdV w:=by show wdV (bW (w:Int))=_;rw[nA (by omega)];rfl
   rw[if_pos iw,ev]
   simp -dsimp (disch:=try exact dx) only[wpS,wpT,zE,zL,zA,fo,dr,aY,aq,aM,bf]
   refine⟨ao rfl rfl rfl rfl (aD (H0:=H6) (b:=2*h5.n) (o:=0) rfl (by omega) X7 Y0 M11),?_⟩
   obtain⟨H10,P0⟩ : ∃X,X=(h9.new (.cells [ZW,ZW,ZW,ZW,ZW,ZW,ZW,ZW] 0 none)).put h9.n (.cells (wdC w) 0 none):=⟨_,rfl⟩
   have E10:Ext h9 H10:=by rw[P0];exact((Ext.refl h9).new _).put (Nat.le_refl _) _
   have n10:H10.n=h9.n+1:=by rw[P0];rfl
   have g13:H10.ext.get h9.n=some (.cells (wdC w) 0 none):=by rw[P0];simp (disch:=try exact dx) only[aa]
   simp -dsimp (disch:=try exact dx) only[wpS,wpT,zE,zA]
   rw[←P0]
   clear P0
   have EA:=(X36.trans X79).trans E10
   obtain⟨dI,h11,hap,hA8,hG8,hE8⟩:=(hA.ext EA).Aq (P:=prog) (t:=28) Wc (m:=1) (new:=wdC w) (by omega) (by rw[aq]) (aM _) (by omega) (by have:=EA.n;omega) (hE2.trans EA) (Nat.le_refl _)
   simp -dsimp (disch:=try exact dx) only[wpS,wpT,zE,zL,zA,bL,V5,DU,f9,f10,aj g13,aq,bf,aK,hap]
   refine⟨m - 1,by omega,i+1,dI,by omega,hE8,?_,fun j w' hj hw'=>?_,by simp[f0],by simp[f4],by simp,by simp⟩
   ·rw[List.take_succ,ewl]
    show Acc h11 hh.n 8 dI (i+1) (wiL ((wL l).take i ++ [w]))
    rw[yu]
    exact hA8
   ·by_cases hji:j=i
    ·subst hji;rw[ewl] at hw';cases hw';exact c
    ·exact hW j w' (by omega) hw'
  ·have iw : ¬InW (w:Int):=by unfold InW;omega
   rw[if_neg iw]
   simp -dsimp (disch:=try exact dx) only[wpS,wpT,zE,zL,zA,fo,dr,aY,aq,aM,bf]
   refine⟨ao rfl rfl rfl rfl (aD (H0:=H6) (b:=2*h5.n) (o:=0) rfl (by omega) X7 Y0 M11),?_⟩
   simp -dsimp (disch:=try exact dx) only[wpS,wpT,zE,zA]
   exact⟨EH9.trans (((Ext.refl h9).new _).put (Nat.le_refl _) _),fun hf=>absurd (hf w (List.mem_of_getElem? ewl)) c,fun _=>trivial⟩
 obtain rfl:i=l.length:=by omega
 have fK:RC l:=fun w hw=>by
  obtain⟨j,hj⟩:=List.getElem?_of_mem hw
  have:=(List.getElem?_eq_some_iff.1 hj).1
  rw[lK] at this
  exact hW j w this hj
 simp -dsimp (disch:=try exact dx) only[wpS,wpT,zE,f9]
 have hs:=hA.sl
 rw[List.take_of_length_le (by rw[lK];omega)] at hs
 refine⟨EH,fun _=>⟨out,rfl,by rw[lK];exact hs,by rw[lK];omega,fun w hw=>?_⟩,fun hn=>absurd fK hn⟩
 have:=fK w hw
 have:=cC
 omega
end Go.Id
