/-
  Contracts: package chance: a wide number drawn. Contracts: package chance: Wide; the sums of weights.
-/
import Derived.Test.YtnanhedgenokpaaGreatTemperMovesAt
import Derived.Test.YtnanhedgenokpaaGreatTemperMovesBk
import Derived.Test.YtnanhedgenokpaaGreatTemperMovesBi
import Derived.Test.YtnanhedgenokpaaGreatTemperMovesBj
set_option linter.unusedVariables false
set_option linter.unusedSimpArgs false
set_option linter.defProp false
set_option linter.deprecated false
namespace Go.Id
open Go
open Go.Proofs.Tryz (prog)
open Nat renaming reduceAdd→zA,reduceEqDiff→zE,reduceLeDiff→zL
set_option maxHeartbeats 16000000
theorem Ml {h:IH} {F:Value} (cF:F.cells = #[F]) (cO:aG F=true):WV prog (.func (.func 266) #[] #[]) [F] h fun r h'=>h'=h.new (.cells [F] 0 none)∧r=.func (.func 278) #[] #[ptr (2*h.n) 0]:=by
 refine enter (nt:=4) (rs:=[.tmp 2]) Proofs.Tryz.func266 rfl rfl rfl (by simp) ?_
 simp -dsimp (disch:=try exact dx) only[wpS,wpT,zE,cF]
set_option maxRecDepth 100000 in
theorem Je {h:IH} {b:Nat} {F y:Value} (J:Nat→IH→Prop) (Fin:IH→Prop) (j0:J 0 h) (jb : ∀i hh,J i hh→hh.ext.get b=some (.cells [F] 0 none))
  (st : ∀i hh,i<TR→J i hh→WV prog F [] hh fun x h1=>WV prog y [x] h1 fun r h2=>(r=.bool true∧J (i+1) h2)∨(r=.bool false∧Fin h2)) :
  WV prog (.func (.func 278) #[] #[ptr (2*b) 0]) [y] h fun _ h'=>J TR h'∨Fin h':=by
 refine enter (nt:=11) (rs:=[]) Proofs.Tryz.func278 rfl rfl rfl (by simp) ?_
 simp -dsimp (disch:=try exact dx) only[wpS,zA]
 have hT:=HB
 refine loop (fun m fr hh => ∃i:Nat,i+m=TR∧J i hh∧ah fr 0=some y∧ah fr 1=some (ptr (2*b) 0)∧ah fr 3=some (KN i)) TR
  ⟨0,by omega,j0,by simp,by simp,by simp⟩ ?_
 rintro m fr hh ⟨i,him,hj,f0,f1,f3⟩
 simp -dsimp (disch:=try exact dx) only[wpS,f3]
 refine ax ?_ ?_<;>intro hc<;>simp only[decide_eq_true_eq,decide_eq_false_iff_not] at hc
 ·have g:=jb i hh hj
  simp -dsimp (disch:=try exact dx) only[wpS,wpT,zE,RR,f0,f1,ai g]
  refine call (st i hh (by omega) hj) ?_
  intro x h1 w1
  simp -dsimp (disch:=try exact dx) only[wpS,zE]
  refine call w1 ?_
  rintro _ h2 (⟨rfl,w2⟩|⟨rfl,w2⟩)
  ·simp -dsimp (disch:=try exact dx) only[wpS,wpT,zE,f3]
   exact⟨m - 1,by omega,i+1,by omega,w2,by simp[f0],by simp[f1],by simp⟩
  ·simp -dsimp (disch:=try exact dx) only[wpS,wpT,zE]
   exact .inr w2
 ·obtain rfl:i=TR:=by omega
  simp -dsimp (disch:=try exact dx) only[wpS,wpT]
  exact .inl hj
theorem Ow {n k:Nat} (h:n<2 ^ k):vf n≤k:=by
 apply Classical.byContradiction
 intro hn
 have:=(yk n k).1 (by omega)
 omega
theorem BT:H8=2 ^ 511:=by unfold H8;decide +kernel
theorem P7 {x k m:Nat} (h:H8=2 ^ m) (hk:k≤m):x % 2 ^ k<H8:=by
 rw[h]
 exact Nat.lt_of_lt_of_le (Nat.mod_lt _ (Nat.two_pow_pos _)) (Nat.pow_le_pow_right (Nat.succ_pos 1) hk)
theorem HM:mj 1=wdV 1:=rfl
theorem JR {h0 h:IH} {ks s n:Nat} (E:Ext h0 h) (hk:h0.n≤ks) (hk2:ks<h.n) (g:h.ext.get ks=some (.cells [K64 s] 0 none)) (n0:0<n) (hn:n<H8) (hs:s<18446744073709551616) :
  WV prog (.func (.func 230) #[] #[]) [ptr (2*ks) 0,wdV n] h fun r h'=>Ext h0 h'∧h.n≤h'.n∧((∃x t,jj n s=some (x,t)∧r=.tuple #[wdV x,KI 0]∧h'.ext.get ks=some (.cells [K64 t] 0 none))∨(jj n s=none∧r=.tuple #[wdV 0,KI 9])):=by
 have w8:n<W8:=by have:=bV;omega
 obtain⟨k,hkk⟩ : ∃k,k=vf (n - 1):=⟨_,rfl⟩
 have k1:k≤511:=by rw[hkk];exact Ow (k:=511) (Nat.lt_of_lt_of_eq (by omega) BT)
 obtain⟨H0,hH0⟩ : ∃H,H=(((h.new (.cells [ptr (2*ks) 0] 0 none)).new (.cells (wdC n) 0 none)).new (.cells [ZW,ZW,ZW,ZW,ZW,ZW,ZW,ZW] 0 none)).new (.cells [KI 0] 0 none):=⟨_,rfl⟩
 have nH0:H0.n=h.n+4:=by rw[hH0];rfl
 have E0:Ext h H0:=by rw[hH0];exact((((Ext.refl h).new _).new _).new _).new _
 have c2:H0.ext.get h.n=some (.cells [ptr (2*ks) 0] 0 none):=by rw[hH0];simp (disch:=try exact dx) only[aa,ao]
 have c3:H0.ext.get (h.n+1)=some (.cells (wdC n) 0 none):=by rw[hH0];simp (disch:=try exact dx) only[aa,ao]
 have c4:H0.ext.get (h.n+2)=some (.cells [ZW,ZW,ZW,ZW,ZW,ZW,ZW,ZW] 0 none):=by rw[hH0];simp (disch:=try exact dx) only[aa,ao]
 have c5:H0.ext.get (h.n+3)=some (.cells [KI 0] 0 none):=by rw[hH0];simp (disch:=try exact dx) only[aa]
 have gs:=E0.kept hk2 g
 refine enter (nt:=37) (rs:=[.cell 4 30,.cell 5 47]) Proofs.Tryz.func230 rfl rfl rfl (by simp) ?_
 simp -dsimp (disch:=try exact dx) only[wpS,zE,zA,dB,tq,aM]
 rw[←hH0]
 clear hH0
 have X0:=Ext.refl H0
 have L3:load prog H0 30 (ptr (2*(h.n+1)) 0)=some (wdV n):=by
  have r:=ai c3
  simp -dsimp (disch:=try exact dx) only[wpS,zL,ba,r,aj,aC]
  rfl
 refine drawn [(0,[2])] (by kernel_rfl) (by kernel_rfl) rfl ?_
 simp -dsimp (disch:=try exact dx) only[wpS,zE,zL,ba,ai c3,aj,aC]
 refine call (kU 1 ⟨by omega,by omega⟩) ?_
 rintro _ h1 ⟨X1,rfl⟩
 rw[HM]
 have m1:=X1.n
 simp -dsimp (disch:=try exact dx) only[wpS,zE]
 refine call (Jx n 1 hn (by omega) n0) ?_
 rintro _ h2 ⟨X2,rfl⟩
 have m2:=X2.n
 have X12:=X1.trans X2
 simp -dsimp (disch:=try exact dx) only[wpS,wpT,zE,zL,zA,dB,cj,aM,aj,ay,aO]
 refine⟨ak rfl rfl rfl rfl (aJ (H0:=H0) rfl (by omega) X0 X1 L3),?_⟩
 have e3:Ext h2 ((h2.new (.cells [ZW,ZW,ZW,ZW,ZW,ZW,ZW,ZW] 0 none)).put h2.n (.cells (wdC (n - 1)) 0 none)):=((Ext.refl _).new _).put (Nat.le_refl _) _
 simp -dsimp (disch:=try exact dx) only[wpS,wpT,zE,zL,zA,ba,aj,aC]
 refine call (DQ (n - 1) (by omega)) ?_
 rintro _ h4 ⟨X4,rfl⟩
 rw[←hkk]
 have m4:=X4.n
 simp only[al,aq] at m4
 have X04:=(X12.trans e3).trans X4
 have p2:=X04.kept (by omega) c2
 have p3:=X04.kept (by omega) c3
 have p4:=X04.kept (by omega) c4
 have p5:=X04.kept (by omega) c5
 have ps:=X04.kept (by omega) gs
 have E4:=(E.trans E0).trans X04
 by_cases k0:k=0
 ·have d0:((k:Int) == 0)=true:=by simp[k0]
  simp -dsimp (disch:=try exact dx) only[wpS,wpT,zE,zL,zA,ba,cj,zc3,st3,ld3,ra,jq,kO,d0,p4,p5]
  refine⟨(((E4.new _).put (by omega) _).put (by omega) _).put (by omega) _,by omega,.inl ⟨0,s,by unfold jj;rw[←hkk,if_pos k0],?_,ps⟩⟩
  rw[←gC]
  rfl
 ·have d0:((k:Int) == 0)=false:=by simp[k0]
  obtain⟨H5,hH5⟩ : ∃H,H=(h4.new (.cells [.int .i64 0] 0 none)).put h4.n (.cells [KN k] 0 none):=⟨_,rfl⟩
  have n5:H5.n=h4.n+1:=by rw[hH5];rfl
  have E5:Ext h4 H5:=by rw[hH5];exact((Ext.refl _).new _).put (Nat.le_refl _) _
  have c8:H5.ext.get h4.n=some (.cells [KN k] 0 none):=by rw[hH5];simp (disch:=try exact dx) only[ad]
  simp -dsimp (disch:=try exact dx) only[wpS,wpT,zE,zL,zc3,st3,ld3,d0]
  rw[←hH5]
  clear hH5
  obtain⟨F,hF⟩ : ∃F,F=(.func (.func 265) #[] #[ptr (2*h4.n) 0,ptr (2*h.n) 0]:Value):=⟨_,rfl⟩
  rw[←hF]
  refine call (Ml (F:=F) (by rw[hF];rfl) (by rw[hF];rfl)) ?_
  rintro _ _ ⟨rfl,rfl⟩
  obtain⟨H6,hH6⟩ : ∃H,H=H5.new (.cells [F] 0 none):=⟨_,rfl⟩
  have n6:H6.n=h4.n+2:=by rw[hH6,al];omega
  have E6:Ext H5 H6:=by rw[hH6];exact(Ext.refl _).new _
  have cF:H6.ext.get H5.n=some (.cells [F] 0 none):=by rw[hH6];simp (disch:=try exact dx) only[aa]
  rw[←hH6]
  clear hH6
  simp -dsimp (disch:=try exact dx) only[wpS,wpT,zE,ra]
  refine Kg (p:=25) (nt:=37) rfl rfl (by decide) (fun r y hfn hnt hbd hy=>?_)
  have hT:=HB
  have E46:=E5.trans E6
  have EE:=E4.trans E46
  have en:=EE.n
  have eh:=E0.n
  have ek0:jj n s=qa n k TR s:=by unfold jj;rw[←hkk,if_neg k0]
  let J:Nat→IH→Prop:=fun i hh => ∃si,si<18446744073709551616∧Ext h0 hh∧H6.n<hh.n∧hh.ext.get H6.n=some (.loop r)∧hh.ext.get H5.n=some (.cells [F] 0 none)∧hh.ext.get ks=some (.cells [K64 si] 0 none)∧hh.ext.get h.n=some (.cells [ptr (2*ks) 0] 0 none)∧hh.ext.get (h.n+1)=some (.cells (wdC n) 0 none)∧hh.ext.get (h.n+2)=some (.cells [ZW,ZW,ZW,ZW,ZW,ZW,ZW,ZW] 0 none)∧hh.ext.get (h.n+3)=some (.cells [KI 0] 0 none)∧hh.ext.get h4.n=some (.cells [KN k] 0 none)∧qa n k TR s=qa n k (TR - i) si
  let Fin:IH→Prop:=fun hh => ∃x t,qa n k TR s=some (x,t)∧Ext h0 hh∧H6.n<hh.n∧hh.ext.get H6.n=some (.loop (oW r .ret))∧hh.ext.get ks=some (.cells [K64 t] 0 none)∧hh.ext.get (h.n+2)=some (.cells (wdC x) 0 none)∧hh.ext.get (h.n+3)=some (.cells [KI 0] 0 none)
  have J0:J 0 (H6.new (.loop r)):=by
   refine⟨s,hs,EE.new _,by simp,aa _ _ rfl,?_,?_,?_,?_,?_,?_,?_,rfl⟩
   ·rw[ao _ _ (by omega)];exact cF
   ·rw[ao _ _ (by omega)];exact E46.kept (by omega) ps
   ·rw[ao _ _ (by omega)];exact E46.kept (by omega) p2
   ·rw[ao _ _ (by omega)];exact E46.kept (by omega) p3
   ·rw[ao _ _ (by omega)];exact E46.kept (by omega) p4
   ·rw[ao _ _ (by omega)];exact E46.kept (by omega) p5
   ·rw[ao _ _ (by omega)];exact E6.kept (by omega) c8
  refine WV.mono (Je (b:=H5.n) (F:=F) (y:=y) J Fin J0 (fun i hh hj=>by obtain⟨_,_,_,_,_,a,_⟩:=hj;exact a) ?_) ?_
  ·rintro i hh hi ⟨si,a0,a1,a2,a3,a4,a5,a6,a7,a8,a9,a10,a11⟩
   rw[hF]
   have an:=a1.n
   refine WV.mono (HL (k:=k) (by omega) (by omega) (by omega) (by omega) (by omega) (by omega) (by omega) a10 a6 a5) ?_
   rintro _ H3 ⟨hn3,hfr,hEx,b5,rfl⟩
   have e3':=hEx h0 a1 hk
   have b3:=(hfr H6.n (by omega) (by omega)).trans a3
   have b4:=(hfr H5.n (by omega) (by omega)).trans a4
   have b6:=(hfr h.n (by omega) (by omega)).trans a6
   have b7:=(hfr (h.n+1) (by omega) (by omega)).trans a7
   have b8:=(hfr (h.n+2) (by omega) (by omega)).trans a8
   have b9:=(hfr (h.n+3) (by omega) (by omega)).trans a9
   have b10:=(hfr h4.n (by omega) (by omega)).trans a10
   obtain⟨x,hx⟩ : ∃x,x=(fw ((k+63) / 64) si).1 % 2 ^ k:=⟨_,rfl⟩
   obtain⟨s',hs'⟩ : ∃x,x=(fw ((k+63) / 64) si).2:=⟨_,rfl⟩
   have sb:s'<18446744073709551616:=by rw[hs'];exact xO a0
   have xb:x<H8:=by
    rw[hx]
    exact P7 (m:=511) BT k1
   have xw:x<W8:=by have:=bV;omega
   obtain⟨q,hq⟩ : ∃q,TR - i=q+1:=⟨TR - i - 1,by omega⟩
   have a12:=a11
   rw[hq,qa,←hx,←hs'] at a12
   rw[←hs'] at b5
   rw[←hx]
   clear hx hs'
   refine hy _ _ _ b3 ?_
   simp -dsimp (disch:=try exact dx) only[wpS,wpT,zE,zL,zA,dB,cj,aM,aj,ay,aO]
   obtain⟨H7,hH7⟩ : ∃H,H=(H3.new (.cells [ZW,ZW,ZW,ZW,ZW,ZW,ZW,ZW] 0 none)).put H3.n (.cells (wdC x) 0 none):=⟨_,rfl⟩
   have n7:H7.n=H3.n+1:=by rw[hH7];rfl
   have e7:Ext H3 H7:=by rw[hH7];exact((Ext.refl _).new _).put (Nat.le_refl _) _
   have cx:H7.ext.get H3.n=some (.cells (wdC x) 0 none):=by rw[hH7];simp (disch:=try exact dx) only[ad]
   rw[←hH7]
   clear hH7
   refine⟨rfl,e7.kept (by omega) b3,?_⟩
   rw[hfn,hnt,hbd]
   obtain⟨H8',hH8⟩ : ∃H,H=H7.put H6.n (.loop (kh r)):=⟨_,rfl⟩
   have e8:Ext h0 H8':=by rw[hH8];exact(e3'.trans e7).put (by omega) _
   have w0 : ∀j,j≠H6.n→H8'.ext.get j=H7.ext.get j:=fun j hj=>by rw[hH8];exact ae _ _ hj
   have zl:H8'.ext.get H6.n=some (.loop (kh r)):=by rw[hH8];exact ad _ _ rfl
   have zn:H8'.n=H7.n:=by rw[hH8];rfl
   rw[←hH8]
   clear hH8
   have dx:=(w0 H3.n (by omega)).trans cx
   have d4:=(w0 H5.n (by omega)).trans (e7.kept (by omega) b4)
   have d5:=(w0 ks (by omega)).trans (e7.kept (by omega) b5)
   have d6:=(w0 h.n (by omega)).trans (e7.kept (by omega) b6)
   have d7:=(w0 (h.n+1) (by omega)).trans (e7.kept (by omega) b7)
   have d8:=(w0 (h.n+2) (by omega)).trans (e7.kept (by omega) b8)
   have d9:=(w0 (h.n+3) (by omega)).trans (e7.kept (by omega) b9)
   have d10:=(w0 h4.n (by omega)).trans (e7.kept (by omega) b10)
   simp -dsimp (maxSteps:=1000000) (disch:=first|omega|(simp only[al,aq];omega)|decide +kernel|(repeat first|rw[al]|rw[aq])) only[wpS,zE,zL,ba,ai dx,ai d7,aj,aC]
   refine call (Cc x n xb hn) ?_
   rintro _ g1 ⟨Y1,rfl⟩
   have gn1:=Y1.n
   have ix:wdI x=(x:Int):=by unfold wdI;rw[if_pos xb]
   by_cases cx':x<n
   ·rw[if_pos cx'] at a12 ⊢
    simp -dsimp (maxSteps:=1000000) (disch:=first|omega|(simp only[al,aq];omega)|decide +kernel|(repeat first|rw[al]|rw[aq])) only[wpS,wpT,zE,zL,ba,ai (Y1.kept (by omega) dx),aj,aC]
    refine call (kX x xw) ?_
    rintro _ g2 ⟨Y2,rfl⟩
    rw[ix,if_neg (by omega)]
    obtain⟨z,hz,hz0⟩ : ∃z:Int,(if (x:Int)=0 then (0:Int) else 1)=z∧0≤z:=⟨_,rfl,by split<;>omega⟩
    rw[hz]
    have gn2:=Y2.n
    have Y12:=Y1.trans Y2
    have f8':=Y12.kept (by omega) d8
    have f9':=Y12.kept (by omega) d9
    simp -dsimp (maxSteps:=1000000) (disch:=first|omega|(simp only[al,aq];omega)|decide +kernel|(repeat first|rw[al]|rw[aq])) only[wpS,wpT,zE,zL,zA,ba,cj,jq,ai (Y12.kept (by omega) dx),f8',f9',aj,ay,aO,aC]
    refine⟨?_,.inr ⟨rfl,x,s',a12,(((e8.trans Y12).put (by omega) _).put (by omega) _).put (by omega) _,by show H6.n<g2.n;omega,ad _ _ rfl,?_,?_,?_⟩⟩
    ·rw[ae _ _ (by omega),ae _ _ (by omega)];exact Y12.kept (by omega) zl
    ·rw[ae _ _ (by omega),ae _ _ (by omega),ae _ _ (by omega)];exact Y12.kept (by omega) d5
    ·rw[ae _ _ (by omega),ae _ _ (by omega)];exact ad _ _ rfl
    ·rw[ae _ _ (by omega)];exact ad _ _ rfl
   ·rw[if_neg cx'] at a12 ⊢
    obtain⟨z,hz,hz0⟩ : ∃z:Int,(if x=n then (0:Int) else 1)=z∧0≤z:=⟨_,rfl,by split<;>omega⟩
    rw[hz]
    simp -dsimp (maxSteps:=1000000) (disch:=first|omega|(simp only[al,aq];omega)|decide +kernel|(repeat first|rw[al]|rw[aq])) only[wpS,wpT,zE]
    refine⟨Y1.kept (by omega) zl,.inl ⟨rfl,s',sb,(e8.trans Y1).put (by omega) _,by show H6.n<g1.n;omega,ad _ _ rfl,?_,?_,?_,?_,?_,?_,?_,by rw[show TR - (i+1)=q by omega];exact a12⟩⟩
    ·rw[ae _ _ (by omega)];exact Y1.kept (by omega) d4
    ·rw[ae _ _ (by omega)];exact Y1.kept (by omega) d5
    ·rw[ae _ _ (by omega)];exact Y1.kept (by omega) d6
    ·rw[ae _ _ (by omega)];exact Y1.kept (by omega) d7
    ·rw[ae _ _ (by omega)];exact Y1.kept (by omega) d8
    ·rw[ae _ _ (by omega)];exact Y1.kept (by omega) d9
    ·rw[ae _ _ (by omega)];exact Y1.kept (by omega) d10
  ·rintro _ hd (⟨si,x0,x1,x2,x3,x4,x5,x6,x7,x8,x9,x10,x11⟩|⟨x,t,x0,x1,x2,x3,x4,x5,x6⟩)
   ·rw[Nat.sub_self,qa] at x11
    refine .inl ⟨x3,?_⟩
    have xn:=x1.n
    obtain⟨K0,hK0⟩ : ∃K0,K0=hd.put H6.n .dead:=⟨_,rfl⟩
    have ed:Ext h0 K0:=by rw[hK0];exact x1.put (by omega) _
    have kn:K0.n=hd.n:=by rw[hK0];rfl
    have z0 : ∀j,j≠H6.n→K0.ext.get j=hd.ext.get j:=fun j hj=>by rw[hK0];exact ae _ _ hj
    have z7:=(z0 (h.n+2) (by omega)).trans x8
    have z8:=(z0 (h.n+3) (by omega)).trans x9
    rw[←hK0]
    clear hK0
    simp -dsimp (disch:=try exact dx) only[wpS,wpT,zE,zL,zA,ba,cj,ra,jq,kO,z7,z8]
    refine⟨(ed.put (by omega) _).put (by omega) _,by omega,.inr ⟨ek0.trans x11,?_⟩⟩
    rw[←gC]
    rfl
   ·refine .inr (.inr ⟨x3,?_⟩)
    have xn:=x1.n
    obtain⟨K0,hK0⟩ : ∃K0,K0=hd.put H6.n .dead:=⟨_,rfl⟩
    have ed:Ext h0 K0:=by rw[hK0];exact x1.put (by omega) _
    have kn:K0.n=hd.n:=by rw[hK0];rfl
    have z0 : ∀j,j≠H6.n→K0.ext.get j=hd.ext.get j:=fun j hj=>by rw[hK0];exact ae _ _ hj
    have z4:=(z0 ks (by omega)).trans x4
    have z7:=(z0 (h.n+2) (by omega)).trans x5
    have z8:=(z0 (h.n+3) (by omega)).trans x6
    rw[←hK0]
    clear hK0
    simp -dsimp (disch:=try exact dx) only[wpS,wpT,zE,zL,ba,ra,kO,ai z7,ai z8,aj,aC]
    exact⟨ed,by omega,.inl ⟨x,t,ek0.trans x0,rfl,z4⟩⟩
end Go.Id

namespace Go.Id
open Go
open Nat renaming reduceAdd→zA,reduceEqDiff→zE,reduceLeDiff→zL
set_option maxHeartbeats 16000000
noncomputable def F3 (s n:Nat):Value:=if wdI n<1 then .tuple #[wdV 0,chV 0,KI 2] else match jj n s with
 | none=>.tuple #[wdV 0,chV 0,KI 9]
 | some p=>.tuple #[wdV p.1,chV p.2,KI 0]
theorem Ak {h:IH} {s n:Nat} (hn:n<W8) (hs:s<18446744073709551616) :
  WV Proofs.Tryz.prog (.func (.func 149) #[] #[]) [chV s,wdV n] h fun r h'=>Ext h h'∧r=F3 s n:=by
 unfold F3
 obtain⟨H0,hH0⟩ : ∃H,H=(((h.new (.cells [K64 s] 0 none)).new (.cells (wdC n) 0 none)).new (.cells [ZW,ZW,ZW,ZW,ZW,ZW,ZW,ZW] 0 none)).new (.cells [.int .u64 0] 0 none):=⟨_,rfl⟩
 have nH0:H0.n=h.n+4:=by rw[hH0];rfl
 have E0:Ext h H0:=by rw[hH0];exact((((Ext.refl h).new _).new _).new _).new _
 have c2:H0.ext.get h.n=some (.cells [K64 s] 0 none):=by rw[hH0];simp (disch:=try exact dx) only[aa,ao]
 have c3:H0.ext.get (h.n+1)=some (.cells (wdC n) 0 none):=by rw[hH0];simp (disch:=try exact dx) only[aa,ao]
 have c4:H0.ext.get (h.n+1+1)=some (.cells [ZW,ZW,ZW,ZW,ZW,ZW,ZW,ZW] 0 none):=by rw[hH0];simp (disch:=try exact dx) only[aa,ao]
 have c5:H0.ext.get (h.n+1+1+1)=some (.cells [.int .u64 0] 0 none):=by rw[hH0];simp (disch:=try exact dx) only[aa]
 refine enter (nt:=34) (rs:=[.cell 4 30,.cell 5 36,.tmp 6]) Proofs.Tryz.func149 rfl rfl rfl (by simp) ?_
 simp -dsimp (disch:=try exact dx) only[wpS,zE,zL,zA,dB,nW,ba,chV,aM,aj,aC]
 rw[←hH0]
 clear hH0
 refine call (kX n hn) ?_
 rintro _ h1 ⟨X1,rfl⟩
 have m1:=X1.n
 have q4:=X1.kept (by omega) c4
 have q5:=X1.kept (by omega) c5
 by_cases cn:wdI n<1
 ·rw[if_pos cn]
  obtain⟨z,hz,hz0⟩ : ∃z:Int,(if wdI n<0 then (-1:Int) else if wdI n=0 then 0 else 1)=z∧z<1:=⟨_,rfl,by by_cases c:wdI n<0<;>simp[c]<;>by_cases c2:wdI n=0<;>simp[c2]<;>omega⟩
  rw[hz]
  have X:=E0.trans X1
  simp -dsimp (disch:=try exact dx) only[wpS,wpT,zE,zL,zA,ba,ra,mh,cj,gH,eH,q4,q5,tk1]
  refine⟨(X.put (by omega) _).put (by omega) _,?_⟩
  rw[←gC]
  rfl
 rw[if_neg cn,if_neg (by omega),if_neg (by omega)]
 have nH:n<H8:=by
  apply Classical.byContradiction
  intro hh
  unfold wdI at cn
  rw[if_neg hh] at cn
  omega
 have n0:0<n:=by
  apply Classical.byContradiction
  intro hh
  have:n=0:=by omega
  subst this
  unfold wdI at cn
  rw[if_pos nH] at cn
  omega
 simp -dsimp (disch:=try exact dx) only[wpS,wpT,zE,zL,eH,ai (X1.kept (by omega) c2),tk1]
 refine call (Aj (s:=s)) ?_
 rintro _ _ ⟨rfl,rfl⟩
 obtain⟨H1,hH1⟩ : ∃H,H=(h1.new (.cells [K64 s] 0 none)).new (.cells [K64 s] 0 none):=⟨_,rfl⟩
 have n1:H1.n=h1.n+2:=by rw[hH1];rfl
 have E1:Ext h1 H1:=by rw[hH1];exact((Ext.refl _).new _).new _
 have gk:H1.ext.get (h1.n+1)=some (.cells [K64 s] 0 none):=by rw[hH1];simp (disch:=try exact dx) only[aa]
 rw[←hH1]
 clear hH1
 simp -dsimp (disch:=try exact dx) only[wpS,zE,zL,ba,ai ((X1.trans E1).kept (by omega) c3),aj,aC]
 refine call (JR E1 (Nat.le_succ _) (by omega) gk n0 nH hs) ?_
 rintro _ h2 ⟨X2,hn2,⟨x,t,ht,rfl,gt⟩|⟨ht,rfl⟩⟩
 ·rw[ht]
  have hx:=oV n0 hs ht
  have r4:=X2.kept (by omega) q4
  have r5:=X2.kept (by omega) q5
  obtain⟨H3,hH3⟩ : ∃H,H=(h2.new (.cells [ZW,ZW,ZW,ZW,ZW,ZW,ZW,ZW] 0 none)).put h2.n (.cells (wdC x) 0 none):=⟨_,rfl⟩
  have E3:Ext h2 H3:=by rw[hH3];exact((Ext.refl _).new _).put (Nat.le_refl _) _
  have n3:H3.n=h2.n+1:=by rw[hH3];rfl
  have g3:H3.ext.get h2.n=some (.cells (wdC x) 0 none):=by rw[hH3];simp (disch:=try exact dx) only[ad]
  have s4:=E3.kept (by omega) r4
  have s5:=E3.kept (by omega) r5
  have st:=E3.kept (by omega) gt
  simp -dsimp (disch:=try exact dx) only[wpS,wpT,zE,zL,zA,dB,cj,aM,aj,ay,aO]
  rw[←hH3]
  clear hH3
  have X:=(((E0.trans X1).trans X2).trans E3)
  refine drawn [(5,[7])] (by kernel_rfl) (by kernel_rfl) rfl ?_
  simp -dsimp (disch:=try exact dx) only[wpS,wpT,zE,zL,zA,ba,cj,gH,eH,vD,BE,ai g3,ai st,s4,s5,tk1,aj,ay,aO,aC]
  refine⟨ak rfl rfl rfl rfl (aA (v:=.agg #[K64 t]) rfl ?_ ?_),?_⟩
  ·have r:=ai st
   simp -dsimp (disch:=try exact dx) only[wpS,wpT,zL,eH,r,tk1]
  ·have r:=ai ((ae (k:=h.n+1+1) H3 (.cells (wdC x) 0 none) (j:=h1.n+1) (by omega)).trans st)
   simp -dsimp (disch:=try exact dx) only[wpS,wpT,zL,eH,r,tk1]
  simp -dsimp (disch:=try exact dx) only[wpS,wpT,zE,zL,zA,ba,eH,tk1,aj,aC]
  exact⟨(X.put (by omega) _).put (by omega) _,rfl⟩
 ·rw[ht]
  have r4:=X2.kept (by omega) q4
  have r5:=X2.kept (by omega) q5
  simp -dsimp (disch:=try exact dx) only[wpS,wpT,zE,zL,zA,dB,ba,ra,mh,cj,gH,eH,r4,r5,aM,aj,ay,aO,tk1]
  refine⟨(((((E0.trans X1).trans X2).new _).put (by omega) _).put (by omega) _).put (by omega) _,?_⟩
  rw[←gC]
  rfl
end Go.Id

namespace Go.Id
open Go
open Go.Proofs.Tryz (prog)
open Nat renaming reduceAdd→zA,reduceEqDiff→zE,reduceLeDiff→zL
set_option maxHeartbeats 16000000
def mq (l:List Nat) (i:Nat):List Nat:=(List.range i).map fun j=>cE l (j+1)
theorem tx (l:List Nat) (i:Nat):(mq l i).length=i:=by simp[mq]
theorem Ep (l:List Nat) (i:Nat):mq l (i+1)=mq l i ++ [cE l (i+1)]:=by simp[mq,List.range_succ]
theorem wc {l:List Nat} {i k:Nat} (h:k<i):(mq l i)[k]?=some (cE l (k+1)):=by simp[mq,h]
theorem Mb {h:IH} {v F:Value} {l:List Nat} (hv:iA h v l) (hl:l.length≤1000) (hs:cE l l.length<W8)
  (hF : ∀h1 i p,Ext h h1→l[i]?=some p→WV prog F [wdV (cE l i),wdV p] h1 fun r h2=>Ext h1 h2∧r=wdV (cE l (i+1))) :
  WV prog (.func (.func 224) #[] #[]) [v,F] h fun r h'=>Ext h h'∧iA h' r (mq l l.length):=by
 refine enter (nt:=25) (rs:=[.tmp 4]) Proofs.Tryz.func224 rfl rfl rfl (by simp) ?_
 simp -dsimp (disch:=try exact dx) only[wpS,zE,zA,dB,hv.1.len rK]
 refine loop (fun m fr hh => ∃(i:Nat) (out:Value),i+m=l.length∧Ext h hh∧h.n<hh.n∧Acc hh h.n 8 out (mq l i).length (wiL (mq l i))∧hh.ext.get h.n=some (.cells (wdC (cE l i)) 0 none)∧ah fr 1=some F∧ah fr 5=some out∧ah fr 6=some (ptr (2*h.n) 0)∧ah fr 9=some v∧ah fr 10=some (KN l.length)∧ah fr 11=some (KN i)) l.length
  ⟨0,.slice none 0 0,by omega,(Ext.refl _).new _,by simp,Acc.nil _ _ (by omega),by rw[cE,gQ];simp (disch:=try exact dx) only[aa],by simp,by simp,by simp,by simp,by simp,by simp⟩ ?_
 rintro m fr hh ⟨i,out,him,hE,hn,hA,g,f1,f5,f6,f9,f10,f11⟩
 simp -dsimp (disch:=try exact dx) only[wpS,f10,f11]
 refine ax ?_ ?_<;>intro hc<;>simp only[decide_eq_true_eq,decide_eq_false_iff_not] at hc
 ·have hi:i<l.length:=by omega
  obtain⟨p,hp⟩ : ∃p,l[i]?=some p:=⟨_,List.getElem?_eq_getElem hi⟩
  have pw:=hv.2.2 p (List.mem_of_getElem? hp)
  have sw:cE l (i+1)<W8:=Nat.lt_of_le_of_lt (mr l (by omega)) hs
  simp -dsimp (disch:=try exact dx) only[wpS,wpT,zE,zL,zA,dB,cj,f1,f9,f11,hv.1.idx u7 hi,hv.ld hE.ab hp,aM,aj,ay,aO]
  obtain⟨H0,hH0⟩ : ∃H,H=(hh.new (.cells [ZW,ZW,ZW,ZW,ZW,ZW,ZW,ZW] 0 none)).put hh.n (.cells (wdC p) 0 none):=⟨_,rfl⟩
  have E0:Ext hh H0:=by rw[hH0];exact((Ext.refl hh).new _).put (Nat.le_refl _) _
  have n0:H0.n=hh.n+1:=by rw[hH0];rfl
  have g0:=E0.kept hn g
  have x0:H0.ext.get hh.n=some (.cells (wdC p) 0 none):=by rw[hH0];simp (disch:=try exact dx) only[ad]
  rw[←hH0]
  clear hH0
  simp -dsimp (disch:=try exact dx) only[wpS,zE,zL,ba,f6,ai g0,ai x0,aj,aC]
  refine call (hF H0 i p (hE.trans E0) hp) ?_
  rintro _ h1 ⟨X1,rfl⟩
  have m1:=X1.n
  have E1:=E0.trans X1
  have g1:=X1.kept (by omega) g0
  obtain⟨H1,hH1⟩ : ∃H,H=h1.put h.n (.cells (wdC (cE l (i+1))) 0 none):=⟨_,rfl⟩
  have E2:Ext h H1:=by rw[hH1];exact(hE.trans E1).put (Nat.le_refl _) _
  have n1:H1.n=h1.n:=by rw[hH1];rfl
  have k1:H1.ext.get h.n=some (.cells (wdC (cE l (i+1))) 0 none):=by rw[hH1];simp (disch:=try exact dx) only[ad]
  have hA1:Acc H1 h.n 8 out (mq l i).length (wiL (mq l i)):=by rw[hH1];exact(hA.ext E1).put g1 _
  simp -dsimp (disch:=try exact dx) only[wpS,wpT,zE,zL,cj,f6,g1,aM,aj,ay,mP]
  rw[←hH1]
  clear hH1
  obtain⟨bR,h8,hap,hA8,hG8,hE8⟩:=hA1.pU (P:=prog) (t:=42) FX (m:=1) (new:=wdC (cE l (i+1))) (by omega) (by rw[aj]) (ay _) (by rw[tx];omega) (by omega) E2 (Nat.le_refl _)
  have jA:append prog (H1.new (.cells (wdC (cE l (i+1))) 8 none)) 42 out (.slice (some ⟨2*H1.n,0,none⟩) 1 3)=some (bR,h8):=hap
  simp -dsimp (disch:=try exact dx) only[wpS,wpT,zE,zL,zA,ba,FP,nA,f5,f6,f11,ai k1,aj,aO,aC,jA]
  refine⟨m - 1,by omega,i+1,bR,by omega,hE8,Nat.lt_of_lt_of_le (by omega) hG8.n,?_,hG8.var (by omega) k1,by simp[f1],by simp,by simp[f6],by simp[f9],by simp[f10],by simp⟩
  rw[Ep,lf,List.length_append]
  exact hA8
 ·obtain rfl:i=l.length:=by omega
  simp -dsimp (disch:=try exact dx) only[wpS,wpT,zE,f5]
  refine⟨hE,hA.sl,by rw[tx];omega,?_⟩
  intro n hn
  obtain⟨j,hj,rfl⟩:=List.mem_map.1 hn
  exact Nat.lt_of_le_of_lt (mr l (by have:=List.mem_range.1 hj;omega)) hs
theorem I6 {h:IH} {b:Nat} (x y:Nat) (hs:x+y<H8) :
  WV prog (.func (.func 225) #[] #[ptr (2*b) 0]) [wdV x,wdV y] h fun r h2=>Ext h h2∧r=wdV (x+y):=by
 refine enter (nt:=18) (rs:=[.cell 5 30]) Proofs.Tryz.func225 rfl rfl rfl (by simp) ?_
 simp -dsimp (disch:=try exact dx) only[wpS,zE,zL,zA,dB,ba,aM,aj,aC]
 have h1:x<H8:=by omega
 have h2:y<H8:=by omega
 obtain⟨H0,hH0,n0,E0,k0,k1,k2⟩:=gP h (wdC x) (wdC y) [ZW,ZW,ZW,ZW,ZW,ZW,ZW,ZW]
 rw[←hH0]
 clear hH0
 refine call (Cd x y h1 h2) ?_
 rintro _ h1 ⟨X1,rfl⟩
 rw[if_pos hs]
 have m1:=X1.n
 have g2:=X1.kept (by omega) k2
 obtain⟨H1,hH1⟩ : ∃H,H=(h1.new (.cells [ZW,ZW,ZW,ZW,ZW,ZW,ZW,ZW] 0 none)).put h1.n (.cells (wdC (x+y)) 0 none):=⟨_,rfl⟩
 have E1:Ext h1 H1:=by rw[hH1];exact((Ext.refl h1).new _).put (Nat.le_refl _) _
 have c1:H1.ext.get h1.n=some (.cells (wdC (x+y)) 0 none):=by rw[hH1];simp (disch:=try exact dx) only[ad]
 have c2:=E1.kept (by omega) g2
 simp -dsimp (disch:=try exact dx) only[wpS,wpT,zE,zL,zA,dB,ba,cj,aM,aj,ay,aO]
 rw[←hH1]
 clear hH1
 simp -dsimp (disch:=try exact dx) only[wpS,wpT,zE,zL,zA,ba,g2,aj,ay,aO,aC]
 exact⟨((E0.trans X1).trans E1).put (by omega) _,rfl⟩
end Go.Id

namespace Go.Id
open Go
open Go.Proofs.Tryz (prog)
open Nat renaming reduceAdd→zA,reduceEqDiff→zE,reduceLeDiff→zL
set_option maxHeartbeats 16000000
theorem AV (l:List Nat) {i p:Nat} (h:l[i]?=some p):cE l (i+1)=cE l i+p:=by
 rw[cE,List.getD_eq_getElem?_getD,h];rfl
theorem Co (l:List Nat) {i p:Nat} (h:l[i]?=some p):p≤cE l l.length:=by
 have:=mr l (List.getElem?_eq_some_iff.1 h).1
 rw[Nat.succ_eq_add_one,AV l h] at this
 omega
noncomputable def GC (l:List Nat) (s:Nat):Value:=match jj (cE l l.length) s with
 | none=>.tuple #[KI 0,chV 0,KI 9]
 | some p=>.tuple #[KN (kE l p.1 l.length 0),chV p.2,KI 0]
theorem gX {n:Nat} (hn:n<H8):wdI n=(n:Int):=by unfold wdI;rw[if_pos hn]
theorem y7 {n s:Nat} (h0:0<n) (hn:n<H8):F3 s n=match jj n s with
 | none=>.tuple #[wdV 0,chV 0,KI 9]
 | some p=>.tuple #[wdV p.1,chV p.2,KI 0]:=by
 unfold F3
 rw[if_neg (show ¬wdI n<1 by rw[gX hn];omega)]
 all_goals (cases jj n s<;>rfl)
theorem Md {h:IH} {v:Value} {l:List Nat} {s:Nat} (hv:iA h v l) (hl:l.length≤400) (hs:cE l l.length<H8) (h0:0<cE l l.length) (hst:s<18446744073709551616) :
  WV prog (.func (.func 144) #[] #[]) [chV s,v] h fun r h'=>Ext h h'∧r=GC l s:=by
 obtain⟨N,hN⟩ : ∃N,N=cE l l.length:=⟨_,rfl⟩
 have w8:cE l l.length<W8:=by have:=bV;omega
 obtain⟨H0,hH0⟩ : ∃H,H=(h.new (.cells [K64 s] 0 none)).new (.cells [.int .u64 0] 0 none):=⟨_,rfl⟩
 have n0:H0.n=h.n+2:=by rw[hH0];rfl
 have E0:Ext h H0:=by rw[hH0];exact((Ext.refl h).new _).new _
 have c2:H0.ext.get h.n=some (.cells [K64 s] 0 none):=by rw[hH0];simp (disch:=try exact dx) only[aa,ao]
 have c5:H0.ext.get (h.n+1)=some (.cells [.int .u64 0] 0 none):=by rw[hH0];simp (disch:=try exact dx) only[aa]
 have vc:=hv.1.cells
 have vo:=hv.1.cok
 refine enter (nt:=78) (rs:=[.tmp 4,.cell 5 36,.tmp 6]) Proofs.Tryz.func144 rfl rfl rfl (by simp) ?_
 simp -dsimp (disch:=try exact dx) only[wpS,zE,zA,nW,chV]
 rw[←hH0]
 clear hH0
 have hlen:=hv.1.len rK (P:=prog)
 simp -dsimp (disch:=try exact dx) only[wpS,wpT,zE,zL,tq,jq,hlen]
 refine loop (fun m fr hh => ∃(i:Nat),i+m=l.length∧Ext H0 hh∧ah fr 1=some v∧ah fr 2=some (ptr (2*h.n) 0)∧ah fr 5=some (ptr (2*(h.n+1)) 0)∧ah fr 19=some v∧ah fr 20=some (KN l.length)∧ah fr 21=some (KN i)) l.length
  ⟨0,by omega,Ext.refl _,by simp,by simp,by simp,by simp,by simp,by simp⟩ ?_
 rintro m fr hh ⟨i,him,hE,f1,f2,f5,f19,f20,f21⟩
 have hnn:=hE.n
 simp -dsimp (disch:=try exact dx) only[wpS,wpT,zE,zL,tq,jq,f20,f21]
 refine ax ?_ ?_<;>intro hc2<;>simp only[decide_eq_true_eq,decide_eq_false_iff_not] at hc2
 ·have hi:i<l.length:=by omega
  obtain⟨p,hp⟩ : ∃p,l[i]?=some p:=⟨_,List.getElem?_eq_getElem hi⟩
  have pw:=hv.2.2 p (List.mem_of_getElem? hp)
  have pt:=Co l hp
  simp -dsimp (disch:=try exact dx) only[wpS,wpT,zE,zL,zA,ba,dB,cj,tq,jq,f19,f21,hv.1.idx u7 hi,hv.ld (E0.trans hE).ab hp,aM,aj,ay,aO,aC]
  refine call (kX p pw) ?_
  rintro _ h1 ⟨X1,rfl⟩
  rw[gX (by omega),if_neg (by omega)]
  obtain⟨z,hz,hz0⟩ : ∃z:Int,(if (p:Int)=0 then (0:Int) else 1)=z ∧ ¬z<0:=⟨_,rfl,by split<;>omega⟩
  rw[hz]
  simp -dsimp (disch:=try exact dx) only[wpS,wpT,zE,zL,tq,jq,f21,hz0,decide_false]
  have m1:=X1.n
  refine⟨m - 1,by omega,i+1,by omega,?_,by simp[f1],by simp[f2],by simp[f5],by simp[f19],by simp[f20],by simp⟩
  exact hE.trans ((((Ext.refl _).new _).put (Nat.le_refl _) _).trans X1)
 ·obtain rfl:i=l.length:=by omega
  simp -dsimp (disch:=try exact dx) only[wpS,wpT,zE,zL,tq,jq,f1]
  obtain⟨H1,hH1⟩ : ∃H,H=(hh.new (.cells [KI 0] 0 none)).put hh.n (.cells [KI 0] 0 none):=⟨_,rfl⟩
  have E1:Ext hh H1:=by rw[hH1];exact((Ext.refl hh).new _).put (Nat.le_refl _) _
  have n1:H1.n=hh.n+1:=by rw[hH1];rfl
  have c9:H1.ext.get hh.n=some (.cells [KI 0] 0 none):=by rw[hH1];simp (disch:=try exact dx) only[ad]
  rw[←hH1]
  clear hH1
  have E01:=(E0.trans hE).trans E1
  have w2:=(hE.trans E1).kept (by omega) c2
  have w5:=(hE.trans E1).kept (by omega) c5
  refine call (Mb (hv.ab E01.ab) (by omega) w8 (fun h1 i p _ hp=>?_)) ?_
  ·have hx:=AV l hp
   have:=mr l (List.getElem?_eq_some_iff.1 hp).1
   rw[Nat.succ_eq_add_one,hx] at this
   rw[hx]
   exact I6 _ _ (by omega)
  rintro up h2 ⟨X2,hu⟩
  have m2:=X2.n
  have d9:=X2.kept (by omega) c9
  have d2:=X2.kept (by omega) w2
  have d5:=X2.kept (by omega) w5
  have lu:(mq l l.length).length=l.length:=tx _ _
  have l0:0<l.length:=by
   apply Classical.byContradiction
   intro hh
   have:l.length=0:=by omega
   rw[this] at h0
   simp[cE] at h0
  have hu1:=hu.1
  rw[lu] at hu1
  have lnu:=hu1.len rK (P:=prog)
  have ixu:=hu1.idx u7 (P:=prog) (k:=.i64) (j:=l.length - 1) (by omega)
  have ldu:=hu.ld (aF.refl _) (wc (l:=l) (i:=l.length) (k:=l.length - 1) (by omega))
  rw[show l.length - 1+1=l.length by omega] at ldu
  have Ru:(l.length:Int) - 1=((l.length - 1:Nat):Int):=by omega
  have ne0:((l.length:Int) == 0)=false:=beq_false_of_ne (by omega)
  simp -dsimp (disch:=try exact dx) only[wpS,wpT,zE,kO,ai d9,lnu,ixu,ldu,Ru,ne0]
  refine call (kX _ w8) ?_
  rintro _ h3 ⟨X3,rfl⟩
  have m3:=X3.n
  rw[gX hs,if_neg (by omega),if_neg (by omega)]
  have e2:=X3.kept (by omega) d2
  have e5:=X3.kept (by omega) d5
  have e9:=X3.kept (by omega) d9
  have RO:=hu.ld X3.ab (wc (l:=l) (i:=l.length) (k:=l.length - 1) (by omega))
  rw[show l.length - 1+1=l.length by omega] at RO
  simp -dsimp (disch:=try exact dx) only[wpS,wpT,zE,zL,eH,f2,ai e2,lnu,ixu,RO,Ru,tk1]
  refine call (Ak w8 hst) ?_
  rintro _ h4 ⟨X4,rfl⟩
  have m4:=X4.n
  have X34:=X3.trans X4
  rw[y7 h0 hs]
  unfold GC
  have q5:=X4.kept (by omega) e5
  have XX:=(E01.trans X2).trans X34
  rcases hd:jj (cE l l.length) s with _|⟨x,t⟩
  ·simp -dsimp (disch:=try exact dx) only[wpS,wpT,zE,zL,zA,nW,mh,gH,dB,cj,eH,f5,chV,q5,tk1,aM,aj,ay,aO]
   exact⟨((((XX.new _).new _).put (by omega) _).put (by omega) _).put (by omega) _,rfl⟩
  ·have hx:=oV h0 hst hd
   simp -dsimp (disch:=try exact dx) only[wpS,wpT,zE,zL,zA,nW,gH,dB,cj,chV,aM,aj,ay,aO]
   obtain⟨H5,hH5⟩ : ∃H,H=(((h4.new (.cells [ZW,ZW,ZW,ZW,ZW,ZW,ZW,ZW] 0 none)).new (.cells [.int .u64 0] 0 none)).put h4.n (.cells (wdC x) 0 none)).put (h4.n+1) (.cells [K64 t] 0 none):=⟨_,rfl⟩
   have E5:Ext h4 H5:=by rw[hH5];exact((((Ext.refl h4).new _).new _).put (by omega) _).put (by omega) _
   have n5:H5.n=h4.n+2:=by rw[hH5];rfl
   have k11:H5.ext.get h4.n=some (.cells (wdC x) 0 none):=by rw[hH5];simp (disch:=try exact dx) only[ad,ae]
   have k12:H5.ext.get (h4.n+1)=some (.cells [K64 t] 0 none):=by rw[hH5];simp (disch:=try exact dx) only[ad]
   have k5:=E5.kept (by omega) q5
   rw[←hH5]
   clear hH5
   refine loop (fun m fr hh' => ∃k:Nat,k+m=l.length∧Ext H5 hh'∧kE l x l.length 0=kE l x m k∧cE l k≤x∧ah fr 5=some (ptr (2*(h.n+1)) 0)∧ah fr 10=some up∧ah fr 11=some (ptr (2*h4.n) 0)∧ah fr 12=some (ptr (2*(h4.n+1)) 0)∧ah fr 14=some (KN k)) l.length
    ⟨0,by omega,Ext.refl _,rfl,by simp[cE],by simp[f5],by simp,by simp,by simp,by simp⟩ ?_
   rintro m fr hh' ⟨k,hk,hE',hpk,hsk,g5,g10,g11,g12,g14⟩
   have en:=hE'.n
   have km:k<l.length:=by
    apply Classical.byContradiction
    intro hn
    obtain rfl:k=l.length:=by omega
    omega
   have ixk:=hu1.idx u7 (P:=prog) (k:=.i64) (j:=k) km
   have ldk:=hu.ld ((X34.trans E5).trans hE').ab (wc (l:=l) (i:=l.length) (k:=k) km)
   have sk:cE l (k+1)<H8:=Nat.lt_of_le_of_lt (mr l (by omega)) hs
   have r11:=hE'.kept (by omega) k11
   simp -dsimp (disch:=try exact dx) only[wpS,zE,zL,ba,g10,g11,g14,ixk,ldk,ai r11,aj,aC]
   refine call (Cc _ x sk (by omega)) ?_
   rintro _ h6 ⟨X6,rfl⟩
   have m6:=X6.n
   obtain⟨q,hq⟩ : ∃q,m=q+1:=⟨m - 1,by omega⟩
   rw[hq,kE] at hpk
   by_cases c:cE l (k+1)≤x
   ·rw[if_pos c] at hpk
    obtain⟨z,hz,hz0⟩ : ∃z:Int,(if cE l (k+1)<x then (-1:Int) else if cE l (k+1)=x then 0 else 1)=z∧z≤0:=⟨_,rfl,by
     by_cases c1:cE l (k+1)<x
     ·rw[if_pos c1];omega
     ·rw[if_neg c1,if_pos (by omega)];omega⟩
    rw[hz]
    simp -dsimp (disch:=try exact dx) only[wpS,wpT,zE,g14]
    exact⟨q,by omega,k+1,by omega,hE'.trans X6,hpk,c,by simp[g5],by simp[g10],by simp[g11],by simp[g12],by simp⟩
   ·rw[if_neg c] at hpk
    rw[if_neg (by omega),if_neg (by omega)]
    have s5:=(hE'.trans X6).kept (by omega) k5
    have s12:=(hE'.trans X6).kept (by omega) k12
    simp -dsimp (disch:=try exact dx) only[wpS,wpT,zE,zL,gH,eH,g5,g12,g14,ai s12,s5,tk1]
    exact⟨((XX.trans E5).trans (hE'.trans X6)).put (by omega) _,by show _=Value.tuple #[KN (kE l x l.length 0),chV t,KI 0];rw[hpk];rfl⟩
end Go.Id

namespace Go.Id
open Go
theorem Bb {a b:Nat} (h:a≤b):(2:Nat) ^ a≤2 ^ b:=Nat.pow_le_pow_right (by omega) h
theorem JZ {a k:Nat} (h:a≤2 ^ k) (hk:k≤4000):ku (a:Int):=aT (k:=k) (by rw[Int.natAbs_natCast];exact h) (by omega)
theorem qj {H:IH} {k s:Nat} (g:H.ext.get k=some (.cells [K64 s] 0 none)):load Proofs.Tryz.prog H 36 (ptr (2*k) 0)=some (.agg #[K64 s]):=by
 have r:=ai g
 simp -dsimp (disch:=try exact dx) only[wpS,wpT,Nat.reduceLeDiff,eH,r,tk1]
structure WB (h hh:IH) (b7 b9 b10:Nat) (s7 s9 s10:Value) (n k:Nat):Prop where
 e:Ext h hh
 l7:h.n+1+1+1+1≤b7
 l9:b7<b9
 l10:b9<b10
 lt:b10<hh.n
 g4:hh.ext.get (h.n+1+1)=some (.cells [ZW,ZW,ZW,ZW,ZW,ZW,ZW,ZW] 0 none)
 g5:hh.ext.get (h.n+1+1+1)=some (.cells [.int .u64 0] 0 none)
 g7:hh.ext.get b7=some (.cells [.bool false,s7] 0 none)
 g9:hh.ext.get b9=some (.cells [.bool false,s9] 0 none)
 g10:hh.ext.get b10=some (.cells [.bool false,s10] 0 none)
 p7:aZ hh (.agg #[.bool false,s7]) ((n:Nat):Int)
 p9:aZ hh (.agg #[.bool false,s9]) ((2 ^ 64:Nat):Int)
 p10:aZ hh (.agg #[.bool false,s10]) ((2 ^ k:Nat):Int)
structure FW (fr:Fr) (h:IH) (b7 b9 b10 k:Nat):Prop where
 f2:ah fr 2=some (ptr (2*h.n) 0)
 f4:ah fr 4=some (ptr (2*(h.n+1+1)) 0)
 f5:ah fr 5=some (ptr (2*(h.n+1+1+1)) 0)
 f7:ah fr 7=some (ptr (2*b7) 0)
 f8:ah fr 8=some (KN k)
 f9:ah fr 9=some (ptr (2*b9) 0)
 f10:ah fr 10=some (ptr (2*b10) 0)
theorem xD {a b:Nat} (h:a≤b) (hb:ku (b:Int)):ku (a:Int):=by
 unfold ku pW at *
 rw[Int.natAbs_natCast] at *
 exact Nat.lt_of_le_of_lt h hb
end Go.Id
