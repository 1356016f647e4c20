/-
  Contracts: the program's long integers told
-/
import Derived.Test.YtnnmjocmapilaaaGreatOutlierValidAv
set_option linter.unusedVariables false
set_option linter.unusedSimpArgs false
set_option linter.defProp false
set_option linter.deprecated false
namespace Go.Id
open Go
open Go.Proofs.Tryz (prog)
open Nat (reduceMul)
open Nat renaming reduceAdd→zA,reduceEqDiff→zE,reduceLeDiff→zL
set_option maxHeartbeats 16000000
theorem Oi {P:Program} {t e:TypeId} {sz:Nat} (hu:P.underlying t=some (.slice e)) (hS:aK P e=some sz) (h:IH) (b o n c:Nat) {s:Value} {ss:List Value} (hs:pO h sz s 0 ss) (ts:Array TypeId) (ht:ts[0]?=some t) :
  builtin P h .copy ts [.slice (some ⟨b,o,none⟩) n c,s]=some (.int .i64 0,h):=by
 have hf:bL h sz 0 s=some []:=by
  obtain⟨hz,hl,⟨rfl,_⟩|⟨b,o,k,rfl,s⟩⟩:=hs
  ·rfl
  ·simp[bL];rfl
 obtain⟨a',k,rfl⟩:=hs.form
 simp only[builtin,ht,tR,hu,lenOf,hS,show Nat.min 0 n=0 from Nat.zero_min _,hf]
 rfl
theorem Wp {ds:List Nat} (hl:ds.length≤8) (hd:B.bB ds):IH.aG [ZW,ZW,ZW,ZW,ZW,ZW,ZW,ZW] 0 (ds.map K64)=wdC (B.ao ds):=by
 have hv : ∀k,B.ao (ds ++ List.replicate k 0)=B.ao ds:=by
  intro k
  rw[show B.ao ds=B.aE (ds ++ List.replicate k 0) ds.length from B.ff fun j hj=>by
   rw[List.getD_eq_getElem?_getD,List.getD_eq_getElem?_getD,List.getElem?_append_left hj]]
  rw[B.ao]
  have:(ds ++ List.replicate k 0).length=ds.length+k:=by simp
  rw[this]
  apply B.jC
  intro j h1 h2
  rw[List.getD_eq_getElem?_getD,List.getElem?_append_right h1]
  rw[←List.getD_eq_getElem?_getD];exact B.jK _ _
 have hD:B.bB (ds ++ List.replicate (8 - ds.length) 0):=fun d h=>by
  rcases List.mem_append.1 h with h|h
  ·exact hd d h
  ·simp at h;omega
 have h8:(ds ++ List.replicate (8 - ds.length) 0).length=8:=by simp;omega
 have:=HL h8 hD
 rw[hv] at this
 rw[mG,this,List.map_append,List.map_replicate]
 have hz : [ZW,ZW,ZW,ZW,ZW,ZW,ZW,ZW]=List.replicate 8 ZW:=rfl
 rw[hz,IH.aG,List.take_zero,List.nil_append,List.length_map,List.drop_replicate,Nat.zero_add]
 rfl
theorem TJ {ds:List Nat} (n:B.Norm ds) (h:8<ds.length):W8≤B.ao ds:=by
 have h1:=n.ge (by intro h0;rw[h0] at h;simp at h)
 rw[CP]
 exact Nat.le_trans (Nat.pow_le_pow_right (by omega) (by omega)) h1
theorem qA {h:IH} {v:Value} {z:Int} (hv:a9 h v z):WV prog (.func (.func 105) #[] #[]) [v] h fun r h'=>Ext h h'∧r=if InW z then .tuple #[pH z,KI 0] else .tuple #[wdV 0,KI 6]:=by
 obtain⟨s,rfl,ds,hD,hN,hx⟩:=hv
 have hb:=hD.2.2
 have h2:=dZ
 have hp:=gU
 refine enter (nt:=22) (rs:=[.cell 2 30,.tmp 3]) Proofs.Tryz.func105 rfl rfl rfl (by simp) ?_
 simp -dsimp (disch:=try exact dx) only[wpS,zE,nh,jr,qN,hD.1.len ft]
 refine aq ?_ ?_<;>intro hc<;>simp only[decide_eq_true_eq,decide_eq_false_iff_not] at hc
 ·have hgt:=TJ hN (by omega)
  have hin : ¬InW z:=by rintro⟨h3,h4⟩;omega
  rw[if_neg hin]
  simp -dsimp (disch:=try exact dx) only[wpS,wpT,zE,zL,zA,Ek,kK,eV,O3]
  exact⟨(((Ext.refl h).new _).new _).put (by omega) _,by rw[mF]⟩
 ·have hl:ds.length≤8:=by omega
  have hlt:B.ao ds<W8:=by
   have:=B.jg hD.2.1
   rw[CP]
   exact Nat.lt_of_lt_of_le this (Nat.pow_le_pow_right (by omega) hl)
  simp -dsimp (disch:=try exact dx) only[wpS,wpT,zE,zL,zA,iG,ld4,VB,KE,JR,Fo,j5]
  obtain⟨H2,hH2⟩ : ∃H2,H2=((((h.new (.cells [.bool (decide (z<0)),s] 0 none)).new (.cells [ZW,ZW,ZW,ZW,ZW,ZW,ZW,ZW] 0 none)).new (.cells [.bool false,ZW,ZW,ZW,ZW,ZW,ZW,ZW,ZW] 0 none)).put (h.n+1+1) (.cells [.bool (decide (z<0)),ZW,ZW,ZW,ZW,ZW,ZW,ZW,ZW] 0 none)):=⟨_,rfl⟩
  have n2:H2.n=h.n+3:=by rw[hH2];rfl
  have g0:H2.ext.get h.n=some (.cells [.bool (decide (z<0)),s] 0 none):=by rw[hH2];simp (disch:=try exact dx) only[ah,ax,ak]
  have g1:H2.ext.get (h.n+1)=some (.cells [ZW,ZW,ZW,ZW,ZW,ZW,ZW,ZW] 0 none):=by rw[hH2];simp (disch:=try exact dx) only[ah,ax,ak]
  have g2:H2.ext.get (h.n+1+1)=some (.cells [.bool (decide (z<0)),ZW,ZW,ZW,ZW,ZW,ZW,ZW,ZW] 0 none):=by rw[hH2];simp (disch:=try exact dx) only[ae]
  have E2:Ext h H2:=by rw[hH2];exact((((Ext.refl h).new _).new _).new _).put (by omega) _
  rw[←hH2]
  have r0:=bI g0
  have sa:=By (P:=prog) Yk Fg (by omega)
  have hs2:=(hD.aa E2.aa).1.now
  have hcp : ∃H3,builtin prog H2 .copy #[133,133] [.slice (some ⟨2*(h.n+1+1),1,none⟩) 8 17,s]=some (.int .i64 (ds.length:Int),H3)∧Ext h H3∧H3.n=h.n+3∧H3.ext.get (h.n+1)=some (.cells [ZW,ZW,ZW,ZW,ZW,ZW,ZW,ZW] 0 none)∧H3.ext.get (h.n+1+1)=some (.cells (.bool (decide (z<0)) :: wdC z.natAbs) 0 none):=by
   rcases Nat.eq_zero_or_pos ds.length with h0|h0
   ·have hd0:ds = []:=List.length_eq_zero_iff.1 h0
    subst hd0
    have hz0:z.natAbs=0:=by rw[←hx];rfl
    refine⟨H2,Oi SG Fg H2 _ _ _ _ hs2 _ rfl,E2,n2,g1,?_⟩
    rw[hz0,lP];exact g2
   ·have hm:min ds.length 8=ds.length:=by omega
    have:=copy_eq (P:=prog) SG Fg g2 (o:=1) (dn:=8) (c:=17) hs2 (Lh _) (by omega) (by simp;omega) #[133,133] rfl
    rw[hm,Nat.mul_one,List.take_of_length_le (by simp),xg,Wp hl hD.2.1,hx] at this
    exact⟨_,this,E2.put (by omega) _,n2,by simp (disch:=omega) only[ak];exact g1,ae _ _ rfl⟩
  obtain⟨H3,hcp,E3,n3,g3,g4⟩:=hcp
  have r4:=bI g4
  simp -dsimp (disch:=omega) only[wpS,wpT,zE,zL,zA,reduceMul,jr,qN,QG,r0,sa,hcp,r4,wk,ar]
  refine call (IP (decide (z<0)) z.natAbs (by omega)) ?_
  rintro _ h4 ⟨hE4,rfl⟩
  have g5:=(hE4.get _ (by omega)).trans g3
  by_cases hin:InW z
  ·have e1 : ¬(H8<z.natAbs∨z.natAbs=H8∧decide (z<0)=false):=by
    obtain⟨i1,i2⟩:=hin
    rintro(h5|⟨h5,h6⟩)
    ·omega
    ·have : ¬z<0:=by simpa using h6
     omega
   have e2:(if decide (z<0)=true then (W8 - z.natAbs) % W8 else z.natAbs)=aV z:=by
    obtain⟨i1,i2⟩:=hin
    unfold aV
    by_cases h6:z<0
    ·rw[if_pos (by simpa using h6),if_neg (by omega),Nat.mod_eq_of_lt (by omega)]
    ·rw[if_neg (by simpa using h6),if_pos (by omega)];omega
   rw[if_neg e1,if_pos hin,e2]
   simp -dsimp (disch:=omega) only[wpS,wpT,zE,zL,zA,kK,eV,g5,cD,ar,cb,ev,bS]
   exact⟨(E3.trans hE4).put (by omega) _,rfl⟩
  ·have e1:H8<z.natAbs∨z.natAbs=H8∧decide (z<0)=false:=by
    unfold InW at hin
    by_cases h6:z<0
    ·left;omega
    ·by_cases h7:z.natAbs=H8
     ·right;exact⟨h7,by simpa using h6⟩
     ·left;omega
   rw[if_pos e1,if_neg hin]
   simp -dsimp (disch:=omega) only[wpS,wpT,zE,zL,zA,kK,eV,g5,cD,ar,cb,ev,bS]
   exact⟨(E3.trans hE4).put (by omega) _,rfl⟩
theorem uO {h:IH} (n:Int) (hn:fR n):WV prog (.func (.func 101) #[] #[]) [KI n] h fun r h'=>Ext h h'∧a9 h' r n:=by
 have hw:InW n:=by
  have:=tY
  constructor
  ·have:=hn.1;omega
  ·have:=hn.2;omega
 refine enter (nt:=6) (rs:=[.cell 2 135]) Proofs.Tryz.func101 rfl rfl rfl (by simp) ?_
 simp -dsimp (disch:=omega) only[wpS,zE,ju]
 refine call (nI n hn) ?_
 rintro _ h1 ⟨hE,rfl⟩
 simp -dsimp (disch:=omega) only[wpS,zE]
 refine call (jb _ (dR hw)) ?_
 rintro _ h2 ⟨hE2,hr⟩
 rw[cm hw] at hr
 obtain⟨s1,n3,rfl,c3,o3,l3,z3⟩:=hr.form
 have m1:=(hE).n;try simp only[aI] at m1
 have m2:=(hE2).n;try simp only[aI,aH] at m2
 have hg:h2.ext.get h.n=some (.cells ZL 0 none):=by rw[hE2.get _ (by omega),hE.get _ (by simp)];simp (disch:=omega) only[ah]
 simp -dsimp (disch:=omega) only[wpS,wpT,zE,zL,zA,gu,bE,hg,o3]
 exact⟨((((Ext.refl h).new _).trans hE).trans hE2).put (by omega) _,hr.aa ((aJ.refl _).put hg _)⟩
end Go.Id
namespace Go.Id
open Go
open Go.Proofs.Tryz (prog)
open Nat renaming reduceAdd→zA,reduceEqDiff→zE,reduceLeDiff→zL
set_option maxHeartbeats 16000000
theorem tx {h:IH} {v w:Value} {x y:Int} (hv:a9 h v x) (hw:a9 h w y) (sx:aU x) (sy:aU y) :
  WV prog (.func (.func 207) #[] #[]) [v,w] h fun r h'=>Ext h h'∧a9 h' r (Int.gcd x y):=by
 obtain⟨s,rfl,hS⟩:=hv
 obtain⟨t,rfl,hT⟩:=hw
 obtain⟨ds,hD,hN,hx⟩:=id hS
 obtain⟨es,hE,hM,hy⟩:=id hT
 refine enter (nt:=26) (rs:=[.cell 4 135]) Proofs.Tryz.func207 rfl rfl rfl (by simp) ?_
 simp -dsimp (disch:=try exact dx) only[wpS,zE,zA,ju,jr,qN]
 have kk : ∀o1 o2 o3,Ext h (((h.new o1).new o2).new o3):=fun o1 o2 o3=>(((Ext.refl h).new _).new _).new _
 refine loop (fun m fr h1 => ∃(xv yv:Value) (a:Nat),Ext (((h.new (.cells [.bool (decide (x<0)),s] 0 none)).new (.cells [.bool (decide (y<0)),t] 0 none)).new (.cells ZL 0 none)) h1∧Wrd h1 xv a∧Wrd h1 yv m∧Small a∧Small m∧Nat.gcd a m=Int.gcd x y∧ab fr 4=some (ptr (2*(h.n+1+1)) 0)∧ab fr 5=some xv∧ab fr 6=some yv) y.natAbs
  ⟨s,t,x.natAbs,Ext.refl _,hS.aa (kk _ _ _).aa,hT.aa (kk _ _ _).aa,sx,sy,rfl,by simp,by simp,by simp⟩ ?_
 clear hS hT hD hN hx hE hM hy ds es
 rintro m fr h1 ⟨xv,yv,a,hE1,hA,hB,sa,sb,I9,f4,f5,f6⟩
 obtain⟨ds,hD,hN,hx⟩:=id hA
 obtain⟨es,hE,hM,hy⟩:=id hB
 have hz:=hM.jZ
 rw[hy] at hz
 have l1:ds.length≤1000000:=nM hN (by rw[hx];exact sa)
 have l2:es.length≤1000000:=nM hM (by rw[hy];exact sb)
 by_cases hm:m=0
 ·have hes:es = []:=hz.1 hm
  have WA:nB prog h1 133 yv=some (.int .i64 ((0:Nat):Int)):=by have:=hE.1.len (P:=prog) ft h1;rw[hes] at this;exact this
  have hg:h1.ext.get (h.n+1+1)=some (.cells ZL 0 none):=by rw[hE1.get _ (by simp)];exact ah _ _ rfl
  simp -dsimp (disch:=omega) only[wpS,wpT,zE,zL,zA,AI,oY,gu,bE,f4,f5,f6,WA,hD.1.cells,hD.1.cok,hg]
  refine⟨((kk _ _ _).trans hE1).put (by omega) _,xv,?_,?_⟩
  ·simp
  ·subst hm
   rw[Nat.gcd_zero_right] at I9
   rw[Int.natAbs_natCast,←I9]
   exact hA.aa ((aJ.refl _).put hg _)
 ·have hl:0<es.length:=by
   apply Nat.pos_of_ne_zero;intro h0
   exact hm (hz.2 (List.length_eq_zero_iff.1 h0))
  simp -dsimp (disch:=omega) only[wpS,wpT,zE,f5,f6,hE.1.len ft]
  refine call (Ar hD hE hN hM (by rw[hy];exact hm) l1 l2) ?_
  rintro _ h2 ⟨hE2,q,r,rfl,hq,hr⟩
  rw[hx,hy] at hr
  have hlt:=Nat.mod_lt a (Nat.pos_of_ne_zero hm)
  simp -dsimp (disch:=try exact dx) only[wpS,zE,f6]
  refine⟨a % m,hlt,yv,r,m,hE1.trans hE2,hB.aa hE2.aa,hr,sb,sb.le (Nat.le_of_lt hlt),?_,by simp[f4],by simp,by simp⟩
  rw[←I9,Nat.gcd_comm a m,Nat.gcd_rec m a,Nat.gcd_comm]
theorem St {h:IH}:Wrd (h.new (.cells [.int .u64 1] 1 none)) (.slice (some ⟨2*h.n,0,none⟩) 1 3) 1 :=
 ⟨[1],⟨vz (h:=h) (sz:=1) (m:=1) (cs:=[K64 1]) (by omega) rfl (by omega),fun x hx=>by simp at hx;omega,by simp⟩,.inr (by simp),by simp[B.ao,B.aE]⟩
theorem rI {h:IH} {v w:Value} {x y:Int} (hv:a9 h v x) (hw:a9 h w y) (sx:aU x) (sy:aU y) (y0:y≠0) :
  WV prog (.func (.func 206) #[] #[]) [v,w] h fun r h'=>Ext h h' ∧ ∃q t,r=.tuple #[q,t]∧a9 h' q (x / y)∧a9 h' t (x % y):=by
 obtain⟨s,rfl,hS⟩:=hv
 obtain⟨t,rfl,hT⟩:=hw
 obtain⟨ds,hD,hN,hx⟩:=id hS
 obtain⟨es,hE,hM,hy⟩:=id hT
 have l1:ds.length≤1000000:=nM hN (by rw[hx];exact sx)
 have l2:es.length≤1000000:=nM hM (by rw[hy];exact sy)
 refine enter (nt:=47) (rs:=[.cell 4 135,.cell 5 135]) Proofs.Tryz.func206 rfl rfl rfl (by simp) ?_
 simp -dsimp (disch:=try exact dx) only[wpS,zE,zA,ju,jr,qN]
 have kk : ∀o1 o2 o3 o4,Ext h ((((h.new o1).new o2).new o3).new o4):=fun o1 o2 o3 o4=>((((Ext.refl h).new _).new _).new _).new _
 refine call (Ar (hD.aa (kk _ _ _ _).aa) (hE.aa (kk _ _ _ _).aa) hN hM (by rw[hy];omega) l1 l2) ?_
 rintro _ h1 ⟨hE1,q,r,rfl,⟨qs,hq,hqv⟩,⟨rs,hr,hrn,hrv⟩⟩
 rw[hx,hy] at hqv hrv
 have n1:h.n+4≤h1.n:=hE1.n
 have g0:h1.ext.get h.n=some (.cells [.bool (decide (x<0)),s] 0 none):=by rw[hE1.get _ (by simp<;>omega)];simp (disch:=try exact dx) only[ah,ax]
 have g1:h1.ext.get (h.n+1)=some (.cells [.bool (decide (y<0)),t] 0 none):=by rw[hE1.get _ (by simp<;>omega)];simp (disch:=try exact dx) only[ah,ax]
 have g2:h1.ext.get (h.n+1+1)=some (.cells ZL 0 none):=by rw[hE1.get _ (by simp<;>omega)];simp (disch:=try exact dx) only[ah,ax]
 have g3:h1.ext.get (h.n+1+1+1)=some (.cells ZL 0 none):=by rw[hE1.get _ (by simp<;>omega)];simp (disch:=try exact dx) only[ah]
 have x1:Ext h h1:=(kk _ _ _ _).trans hE1
 have eT1:=hE.aa x1.aa
 clear hE1 kk
 have r0:=bI g0
 have r1:=bI g1
 simp -dsimp (disch:=omega) only[wpS,zE]
 refine drawn [(8,[6])] (by kernel_rfl) (by kernel_rfl) rfl ?_
 simp -dsimp (disch:=omega) only[wpS,zE,iG,ld4,bn4,r0,r1,vB]
 refine call (fJ hq _) ?_
 rintro q2 h2 ⟨hE2,hq2⟩
 have r02:h2.row (2*h.n)=some [.bool (decide (x<0)),s]:=by rw[hE2.row (.inr (by omega))];exact r0
 simp -dsimp (disch:=omega) only[wpS,zE,iG,ld4,r02]
 refine call (fJ (hr.aa hE2.aa) _) ?_
 rintro t2 h3 ⟨hE3,ht2⟩
 rw[hqv] at hq2
 rw[hrv] at ht2
 have pa:=KH (x:=x) y0
 have pb:=KG (x:=x) y0
 have aQ:=yg (decide (x<0) != decide (y<0)) (x.natAbs / y.natAbs)
 have aR:=yg (decide (x<0)) (x.natAbs % y.natAbs)
 generalize (if (decide (x<0) != decide (y<0))=true then -((x.natAbs / y.natAbs:Nat):Int) else ((x.natAbs / y.natAbs:Nat):Int))=Q at *
 generalize (if decide (x<0)=true then -((x.natAbs % y.natAbs:Nat):Int) else ((x.natAbs % y.natAbs:Nat):Int))=R at *
 have sQ:aU Q:=Small.le sx (by rw[aQ];exact Nat.div_le_self _ _)
 have sR:aU R:=Small.le sy (by rw[aR];exact Nat.le_of_lt (Nat.mod_lt _ (by omega)))
 obtain⟨sq,n3,rfl,c3,o3,_,_⟩:=hq2.form
 obtain⟨st,n4,rfl,c4,o4,_,_⟩:=ht2.form
 have x3:Ext h h3:=(x1.trans hE2).trans hE3
 have n2:=hE2.n
 have n3':=hE3.n
 have g2':=(hE3.get _ (by omega)).trans ((hE2.get _ (by omega)).trans g2)
 have g3':=(hE3.get _ (by omega)).trans ((hE2.get _ (by omega)).trans g3)
 have g1':=(hE3.get _ (by omega)).trans ((hE2.get _ (by omega)).trans g1)
 simp -dsimp (disch:=omega) only[wpS,wpT,zE,zL,zA,gu,o3,o4,g2',g3']
 refine⟨ad rfl rfl rfl rfl (ai (av:=ptr (2*h.n) 0) (v:=.bool (decide (x<0))) rfl ?_ ?_),?_⟩
 ·simp -dsimp (disch:=omega) only[wpS,ld4,r02]
 ·simp -dsimp (disch:=omega) only[wpS,ld4,r0]
 simp -dsimp (disch:=omega) only[wpS,wpT,zE,zA,iG,ld4]
 obtain⟨h4,hh4⟩:=aP ((h3.put (h.n+1+1) (.cells [.bool (decide (Q<0)),sq] 0 none)).put (h.n+1+1+1) (.cells [.bool (decide (R<0)),st] 0 none))
 have g8:h4.ext.get (h.n+1+1)=some (.cells [.bool (decide (Q<0)),sq] 0 none):=by rw[hh4];simp (disch:=omega) only[ae,ak]
 have g9:h4.ext.get (h.n+1+1+1)=some (.cells [.bool (decide (R<0)),st] 0 none):=by rw[hh4];simp (disch:=omega) only[ae]
 have g7:h4.ext.get (h.n+1)=some (.cells [.bool (decide (y<0)),t] 0 none):=by rw[hh4];simp (disch:=omega) only[ak];exact g1'
 have n5:h4.n=h3.n:=by rw[hh4];rfl
 have k4:aJ h3 h4:=by rw[hh4];exact((aJ.refl h3).put g2' _).put (by rw[ak _ _ (by omega)];exact g3') _
 have x4:Ext h h4:=by rw[hh4];exact(x3.put (by omega) _).put (by omega) _
 have hQ0:=hq2.aa (hE3.aa.trans k4)
 have hR0:=ht2.aa k4
 have eT4:=eT1.aa ((hE2.trans hE3).aa.trans k4)
 rw[←hh4]
 clear hh4 g2' g3' g1' r0 r1 g0 g1 g2 g3
 have r9:=bI g9
 have r8:=bI g8
 have r7:=bI g7
 refine fC (fun fr2 h5 => ∃sq st,Ext h h5∧h5.ext.get (h.n+1+1)=some (.cells [.bool (decide (x / y<0)),sq] 0 none)∧h5.ext.get (h.n+1+1+1)=some (.cells [.bool (decide (x % y<0)),st] 0 none)∧a9 h5 (.agg #[.bool (decide (x / y<0)),sq]) (x / y)∧a9 h5 (.agg #[.bool (decide (x % y<0)),st]) (x % y) ∧
  ab fr2 4=some (ptr (2*(h.n+1+1)) 0)∧ab fr2 5=some (ptr (2*(h.n+1+1+1)) 0)) (fun hb=>?_) (fun hb=>?_) ?_
 ·have hb':R<0:=by simpa using hb
  obtain⟨b1,b2⟩:=pb hb'
  rw[decide_eq_true hb'] at hR0 r9 g9
  simp -dsimp (disch:=omega) only[wpS,wpT,zE,zL,zA,ju,jr,qN,gu,AI,oY,bE,r7,r9,List.drop_zero,dS,hE.1.cells,hE.1.cok]
  have xA:Ext h ((h4.new (.cells ZL 0 none)).put h4.n (.cells [.bool false,t] 0 none)):=(x4.new _).put (by omega) _
  have xB:Ext h4 ((h4.new (.cells ZL 0 none)).put h4.n (.cells [.bool false,t] 0 none)):=((Ext.refl h4).new _).put (by omega) _
  have hY:a9 ((h4.new (.cells ZL 0 none)).put h4.n (.cells [.bool false,t] 0 none)) (.agg #[.bool false,t]) (y.natAbs:Int):=⟨t,by simp,by rw[Int.natAbs_natCast];exact⟨es,eT4.aa xB.aa,hM,hy⟩⟩
  refine call (qC (hR0.aa xB.aa) hY sR (iX sy)) ?_
  rintro t5 h5 ⟨hE5,ht5⟩
  rw[b2] at ht5
  obtain⟨s5,_,rfl,c5,o5,_,_⟩:=ht5.form
  have n6:=(hE5).n;try simp only[aI,aH] at n6
  have x5:=xB.trans hE5
  have k9:=(x5.get _ (by omega)).trans g9
  have k8:=(x5.get _ (by omega)).trans g8
  have k7:=(x5.get _ (by omega)).trans g7
  have rr7:=bI k7
  have rr8:=bI k8
  simp -dsimp (disch:=try exact dx) only[wpS,wpT,zE,zL,zA,ju,iG,ld4,gu,AI,oY,bE,RZ,uN,k9,o5,rr7,rr8,List.drop_zero,dS]
  obtain⟨h6,hh6⟩ : ∃h6,h6=((((h5.put (h.n+1+1+1) (.cells [.bool (decide (x % y<0)),s5] 0 none)).new (.cells [.int .u64 1] 1 none)).new (.cells ZL 0 none)).put (h5.n+1) (.cells [.bool (!decide (y<0)),.slice (some ⟨2*h5.n,0,none⟩) 1 3] 0 none)):=⟨_,rfl⟩
  have k5:aJ h5 h6:=by rw[hh6];exact((((aJ.refl h5).put k9 _).new _).new _).put (cs:=ZL) (f:=none) (by simp (disch:=try exact dx) only[ah]) _
  have y6:Ext h h6:=by rw[hh6];exact(((((xA.trans hE5).put (by omega) _).new _).new _).put (by first|omega|(simp only[aI,aH];omega)) _)
  have j9:h6.ext.get (h.n+1+1+1)=some (.cells [.bool (decide (x % y<0)),s5] 0 none):=by rw[hh6];simp (disch:=try exact dx) only[ax,ae,ak]
  have j8:h6.ext.get (h.n+1+1)=some (.cells [.bool (decide (Q<0)),sq] 0 none):=by rw[hh6];simp (disch:=try exact dx) only[ax,ak];exact k8
  have n7:h6.n=h5.n+2:=by rw[hh6];rfl
  have hOne:a9 h6 (.agg #[.bool (!decide (y<0)),.slice (some ⟨2*h5.n,0,none⟩) 1 3]) (if y<0 then 1 else -1):=by
   refine⟨.slice (some ⟨2*h5.n,0,none⟩) 1 3,?_,?_⟩
   ·by_cases hy0:y<0<;>simp[hy0]<;>rfl
   ·rw[show(if y<0 then (1:Int) else -1).natAbs=1 by split<;>rfl,hh6]
    have w1:=St (h:=h5.put (h.n+1+1+1) (.cells [.bool (decide (x % y<0)),s5] 0 none))
    exact w1.aa (((aJ.refl _).new _).put (cs:=ZL) (f:=none) (by simp (disch:=try exact dx) only[ah]) _)
  have jr8:=bI j8
  rw[←hh6]
  have sOne:aU (if y<0 then (1:Int) else -1):=by split<;>exact Dg
  refine call (qC (hQ0.aa (x5.aa.trans k5)) hOne sQ sOne) ?_
  rintro t7 h7 ⟨hE7,ht7⟩
  have hqq:Q+(if y<0 then (1:Int) else -1)=x / y:=by
   rw[←b1]
  rw[hqq] at ht7
  obtain⟨s7,_,rfl,c7,o7,_,_⟩:=ht7.form
  have n8:=(hE7).n;try simp only[aI,aH] at n8
  have i8:=(hE7.get _ (by omega)).trans j8
  have i9:=(hE7.get _ (by omega)).trans j9
  simp -dsimp (disch:=omega) only[wpS,wpT,zE,zL,zA,gu,i8,o7]
  have k7':=(aJ.refl h7).put i8 (.cells [.bool (decide (x / y<0)),s7] 0 none)
  refine⟨s7,s5,(y6.trans hE7).put (by omega) _,ae _ _ rfl,by simp (disch:=omega) only[ak];exact i9,ht7.aa k7',ht5.aa ((k5.trans hE7.aa).trans k7'),by simp⟩
 ·have hb' : ¬R<0:=by simpa using hb
  obtain⟨b1,b2⟩:=pa hb'
  simp -dsimp (disch:=omega) only[wpS,wpT]
  subst b1;subst b2
  exact⟨sq,st,x4,g8,g9,hQ0,hR0,by simp⟩
 rintro fr2 h5 ⟨sq,st,x5,k8,k9,hQ,hR,f4,f5⟩
 have q8:=bI k8
 have q9:=bI k9
 obtain⟨s8,n8,e8,c8,o8,_,_⟩:=hQ.form
 obtain⟨s9,n9,e9,c9,o9,_,_⟩:=hR.form
 cases e8
 cases e9
 rw[mu]
 refine drawn [(1,[3])] (by kernel_rfl) (by kernel_rfl) rfl ?_
 simp -dsimp (disch:=omega) only[wpS,wpT,zE,zL,zA,gu,bE,f4,f5,q8,q9,k8,k9,o8,o9,List.drop_zero,dS]
 have k5:=(aJ.refl h5).put k8 (.cells [.bool (decide (x / y<0)),sq] 0 none)
 have k3':(h5.put (h.n+1+1) (.cells [.bool (decide (x / y<0)),sq] 0 none)).ext.get (h.n+1+1+1)=some (.cells [.bool (decide (x % y<0)),st] 0 none):=by rw[ak _ _ (by omega)];exact k9
 have k6:=k5.put k3' (.cells [.bool (decide (x % y<0)),st] 0 none)
 refine⟨ad rfl rfl rfl rfl (ai (av:=ptr (2*(h.n+1+1+1)) 0) (v:=.agg #[.bool (decide (x % y<0)),st]) ?_ ?_ ?_),?_⟩
 ·simp -dsimp (disch:=omega) only[wpS,zE,f5]
 ·simp -dsimp (disch:=omega) only[wpS,wpT,zL,zA,bE,q9,List.drop_zero,dS]
 ·simp -dsimp (disch:=omega) only[wpS,wpT,zL,zA,bE,q9,List.drop_zero,dS]
 simp -dsimp (disch:=omega) only[wpS,wpT,zE,zL,zA,bE,f4,f5,List.drop_zero,dS]
 exact⟨(x5.put (by omega) _).put (by omega) _,_,_,rfl,hQ.aa k6,hR.aa k6⟩
end Go.Id
namespace Go.Id
open Go
open Nat renaming reduceAdd→zA,reduceEqDiff→zE,reduceLeDiff→zL
set_option maxHeartbeats 16000000
abbrev ZR:List Value:=[.bool false,.slice none 0 0,.bool false,.slice none 0 0]
def rp (h:IH) (v:Value) (n d:Int):Prop:=∃a s b t,v=.agg #[a,s,b,t]∧a9 h (.agg #[a,s]) n∧a9 h (.agg #[b,t]) d
theorem rp.aa {h h':IH} {v:Value} {n d:Int} (p:rp h v n d) (e:aJ h h'):rp h' v n d:=let ⟨a,s,b,t,h1,h2,h3⟩:=p;⟨a,s,b,t,h1,h2.aa e,h3.aa e⟩
def bg (h:IH) (v:Value) (q:Rat):Prop:=rp h v q.num q.den
theorem bg.aa {h h':IH} {v:Value} {q:Rat} (p:bg h v q) (e:aJ h h'):bg h' v q:=rp.aa p e
theorem a9.cg {h:IH} {v:Value} {z:Int} (d:a9 h v z) : ∃s,v=.agg #[.bool (decide (z<0)),s]∧s.cells = #[s]∧aA s=true:=let ⟨s,n,a,b,c,_⟩:=d.form;⟨s,a,b,c⟩
theorem a9.co {h:IH} {a s:Value} {z:Int} (d:a9 h (.agg #[a,s]) z):a=.bool (decide (z<0))∧s.cells = #[s]∧aA s=true:=by
 obtain⟨s',h1,h2,h3⟩:=d.cg
 cases h1
 exact⟨rfl,h2,h3⟩
theorem aS {x k:Nat} (h:x≤2 ^ k) (hk:k<16000000):tX x:=by
 refine .mk (Nat.lt_of_le_of_lt h ?_)
 rw[P4 4294967296 2 500000 32 16000000 (by decide) (by decide)]
 exact Te 2 k 16000000 (by decide) hk
theorem bt {x k:Nat} (h:x≤2 ^ k) (hk:k<16000000):Small x:=(aS h hk).small
theorem rL {h:IH} {v w:Value} {n d:Int} (hv:a9 h v n) (hw:a9 h w d) (sn:aU n) (sd:aU d) (d0:d≠0) :
  WV Proofs.Tryz.prog (.func (.func 186) #[] #[]) [v,w] h fun r h'=>Ext h h'∧bg h' r (Rat.divInt n d):=by
 obtain⟨s,rfl,c1,o1⟩:=hv.cg
 obtain⟨t,rfl,c2,o2⟩:=hw.cg
 have sg:aU (Int.gcd n d:Int):=by
  have h1:Int.gcd n d≤d.natAbs:=Nat.le_of_dvd (by omega) (Nat.gcd_dvd_right _ _)
  exact iX (sd.le h1)
 refine enter (nt:=34) (rs:=[.cell 4 137]) Proofs.Tryz.func186 rfl rfl rfl (by simp) ?_
 simp -dsimp (disch:=try exact dx) only[wpS,wpT,zE,zL,zA,dr,bE]
 obtain⟨H0,hH0,n0,E0,g0,g1,g2⟩:=fP h [.bool (decide (n<0)),s] [.bool (decide (d<0)),t] ZR
 rw[←hH0]
 refine call (tx (hv.aa E0.aa) (hw.aa E0.aa) sn sd) ?_
 rintro _ h1 ⟨hE1,hg⟩
 obtain⟨sg1,rfl,c3,o3⟩:=hg.cg
 have hng:decide ((Int.gcd n d:Int)<0)=false:=decide_eq_false (by omega)
 rw[hng] at hg
 have x1:=E0.trans hE1
 have n1:=(hE1).n;try simp only[aI,aH] at n1
 have r0:=aj (hE1.kept (by omega) g0)
 simp -dsimp (disch:=try exact dx) only[wpS,wpT,zE,zL,zA,bE,ju,gu,o3,r0,qh]
 obtain⟨H2,hH2⟩ : ∃H2,H2=(h1.new (.cells ZL 0 none)).put h1.n (.cells [.bool false,sg1] 0 none):=⟨_,rfl⟩
 have e2:Ext h1 H2:=by rw[hH2];exact((Ext.refl _).new _).put (Nat.le_refl _) _
 have n2:H2.n=h1.n+1:=by rw[hH2];rfl
 have gg:H2.ext.get h1.n=some (.cells [.bool false,sg1] 0 none):=by rw[hH2];simp (disch:=try exact dx) only[ae]
 rw[←hH2]
 have x2:=x1.trans e2
 refine call (rI (hv.aa x2.aa) (hg.aa e2.aa) sn sg (Af d0)) ?_
 rintro _ h3 ⟨hE3,q,u,rfl,hq,hu⟩
 obtain⟨sq,rfl,c4,o4⟩:=hq.cg
 obtain⟨su,rfl,c5,o5⟩:=hu.cg
 have n3:=(hE3).n;try simp only[aI,aH] at n3
 have x3:=x2.trans hE3
 have r1:=aj (hE3.kept (by omega) (e2.kept (by omega) (hE1.kept (by omega) g1)))
 have r3:=aj (hE3.kept (by omega) gg)
 simp -dsimp (disch:=try exact dx) only[wpS,wpT,zE,zL,zA,bE,ju,gu,o4,o5,r1,r3,qh]
 obtain⟨H4,hH4⟩ : ∃H4,H4=((((h3.new (.cells ZL 0 none)).new (.cells ZL 0 none)).put h3.n (.cells [.bool (decide (n / (Int.gcd n d:Int)<0)),sq] 0 none)).put (h3.n+1) (.cells [.bool (decide (n % (Int.gcd n d:Int)<0)),su] 0 none)):=⟨_,rfl⟩
 have e4:Ext h3 H4:=by rw[hH4];exact((((Ext.refl _).new _).new _).put (Nat.le_refl _) _).put (by omega) _
 have n4:H4.n=h3.n+2:=by rw[hH4];rfl
 have gq:H4.ext.get h3.n=some (.cells [.bool (decide (n / (Int.gcd n d:Int)<0)),sq] 0 none):=by rw[hH4];simp (disch:=try exact dx) only[ae,ak]
 rw[←hH4]
 have x4:=x3.trans e4
 refine call (rI (hw.aa x4.aa) (hg.aa ((e2.trans hE3).trans e4).aa) sd sg (Af d0)) ?_
 rintro _ h5 ⟨hE5,q2,u2,rfl,hq2,hu2⟩
 obtain⟨sq2,rfl,c6,o6⟩:=hq2.cg
 obtain⟨su2,rfl,c7,o7⟩:=hu2.cg
 have n5:=(hE5).n;try simp only[aI,aH] at n5
 have x5:=x4.trans hE5
 simp -dsimp (disch:=try exact dx) only[wpS,wpT,zE,zL,zA,ju,gu,iG,ld4,o6,o7]
 obtain⟨H6,hH6⟩ : ∃H6,H6=((((h5.new (.cells ZL 0 none)).new (.cells ZL 0 none)).put h5.n (.cells [.bool (decide (d / (Int.gcd n d:Int)<0)),sq2] 0 none)).put (h5.n+1) (.cells [.bool (decide (d % (Int.gcd n d:Int)<0)),su2] 0 none)):=⟨_,rfl⟩
 have e6:Ext h5 H6:=by rw[hH6];exact((((Ext.refl _).new _).new _).put (Nat.le_refl _) _).put (by omega) _
 have n6:H6.n=h5.n+2:=by rw[hH6];rfl
 have gd:H6.ext.get h5.n=some (.cells [.bool (decide (d / (Int.gcd n d:Int)<0)),sq2] 0 none):=by rw[hH6];simp (disch:=try exact dx) only[ae,ak]
 have x6:=x5.trans e6
 have gn:=e6.kept (by omega) (hE5.kept (by omega) gq)
 have gr:=e6.kept (by omega) (hE5.kept (by omega) (e4.kept (by omega) (hE3.kept (by omega) (e2.kept (by omega) (hE1.kept (by omega) g2)))))
 have hqA:=hq.aa ((e4.trans hE5).trans e6).aa
 have hqB:=hq2.aa e6.aa
 rw[←hH6]
 clear hH0 hH2 hH4 hH6
 have rn:=aj gn
 have rd:=aj gd
 have hls:=Qx (n:=n) d0
 refine fC (fun fr2 h7 => ∃sa sb,Ext h h7∧h7.ext.get h3.n=some (.cells [.bool (decide ((Rat.divInt n d).num<0)),sa] 0 none)∧h7.ext.get h5.n=some (.cells [.bool (decide (((Rat.divInt n d).den:Int)<0)),sb] 0 none)∧h7.ext.get (h.n+1+1)=some (.cells ZR 0 none)∧a9 h7 (.agg #[.bool (decide ((Rat.divInt n d).num<0)),sa]) (Rat.divInt n d).num∧a9 h7 (.agg #[.bool (decide (((Rat.divInt n d).den:Int)<0)),sb]) (Rat.divInt n d).den ∧
  ab fr2 4=some (ptr (2*(h.n+1+1)) 0)∧ab fr2 6=some (ptr (2*h3.n) 0)∧ab fr2 8=some (ptr (2*h5.n) 0)) (fun hb=>?_) (fun hb=>?_) ?_
 ·have hd:d<0:=hls.1 (by simpa using hb)
  obtain⟨b1,b2⟩:=yr (n:=n) hd
  rw[hb] at hqB gd rd
  refine drawn [(2,[1])] (by kernel_rfl) (by kernel_rfl) rfl ?_
  simp -dsimp (disch:=omega) only[wpS,wpT,zE,zL,zA,bE,rn,List.drop_zero,dS]
  refine call (mb hqA) ?_
  rintro _ h7 ⟨hE7,hA⟩
  rw[b1] at hA
  obtain⟨sa,rfl,c8,o8⟩:=hA.cg
  have n7:=(hE7).n;try simp only[aI,aH] at n7
  have kd:=hE7.kept (by omega) gd
  have rd7:=aj kd
  simp -dsimp (disch:=omega) only[wpS,wpT,zE,zL,zA,bE,rd7,List.drop_zero,dS]
  refine call (mb (hqB.aa hE7.aa)) ?_
  rintro _ h8 ⟨hE8,hB⟩
  rw[b2] at hB
  obtain⟨sb,rfl,c9,o9⟩:=hB.cg
  have n8:=(hE8).n;try simp only[aI,aH] at n8
  have kn8:=hE8.kept (by omega) (hE7.kept (by omega) gn)
  have kd8:=hE8.kept (by omega) kd
  have kr8:=hE8.kept (by omega) (hE7.kept (by omega) gr)
  simp -dsimp (disch:=omega) only[wpS,wpT,zE,zL,zA,gu,kn8,kd8,o8,o9]
  refine⟨ad rfl rfl rfl rfl (ai (av:=ptr (2*h5.n) 0) (v:=.agg #[.bool true,sq2]) rfl ?_ ?_),?_⟩
  ·simp -dsimp (disch:=omega) only[wpS,wpT,zL,zA,bE,rd7,List.drop_zero,dS]
   try rfl
  ·simp -dsimp (disch:=omega) only[wpS,wpT,zL,zA,bE,rd,List.drop_zero,dS]
   try rfl
  simp -dsimp (disch:=omega) only[wpS,wpT,zA]
  have kpA:=(aJ.refl h8).put kn8 (.cells [.bool (decide ((Rat.divInt n d).num<0)),sa] 0 none)
  have gB:(h8.put h3.n (.cells [.bool (decide ((Rat.divInt n d).num<0)),sa] 0 none)).ext.get h5.n=some (.cells [.bool true,sq2] 0 none):=by rw[ak _ _ (by omega)];exact kd8
  have kpB:=kpA.put gB (.cells [.bool (decide (((Rat.divInt n d).den:Int)<0)),sb] 0 none)
  have hdf:decide (((Rat.divInt n d).den:Int)<0)=false:=decide_eq_false (by omega)
  rw[hdf] at kpB hB ⊢
  refine⟨sa,sb,(((x6.trans hE7).trans hE8).put (by omega) _).put (by omega) _,by simp (disch:=omega) only[ae,ak],ae _ _ rfl,by simp (disch:=omega) only[ak];exact kr8,hA.aa (hE8.aa.trans kpB),hB.aa kpB,by simp⟩
 ·have hd:0<d:=by
   have : ¬d<0:=fun h=>by have:=hls.2 h;simp at hb;omega
   omega
  obtain⟨b1,b2⟩:=mP (n:=n) hd
  simp -dsimp (disch:=omega) only[wpS,wpT]
  rw[b1] at gn hqA
  rw[b2] at gd hqB
  exact⟨sq,sq2,x6,gn,gd,gr,hqA,hqB,by simp⟩
 rintro fr2 h7 ⟨sa,sb,x7,k1,k2,k3,hA,hB,f4,f6,f8⟩
 have q1:=aj k1
 have q2:=aj k2
 obtain⟨_,c8,o8⟩:=hA.co
 obtain⟨_,c9,o9⟩:=hB.co
 rw[mu]
 simp -dsimp (disch:=omega) only[wpS,wpT,zE,zL,zA,bE,LZ,yp,yo,cQ,fA,f4,f6,f8,q1,q2,k3,o8,o9,List.drop_zero,dS]
 have hdf:decide (((Rat.divInt n d).den:Int)<0)=false:=decide_eq_false (by omega)
 rw[hdf] at hB
 have kp:=(aJ.refl h7).put k3 (.cells [.bool (decide ((Rat.divInt n d).num<0)),sa,.bool false,sb] 0 none)
 exact⟨x7.put (by omega) _,_,_,_,_,rfl,hA.aa kp,hB.aa kp⟩
open Go.Proofs.Tryz (prog)
theorem bg.parts {h:IH} {v:Value} {q:Rat} (p:bg h v q) : ∃a s b t,v=.agg #[a,s,b,t]∧a9 h (.agg #[a,s]) q.num∧a9 h (.agg #[b,t]) q.den∧s.cells = #[s]∧aA s=true∧t.cells = #[t]∧aA t=true∧aA a=true∧aA b=true:=by
 obtain⟨a,s,b,t,rfl,h1,h2⟩:=p
 obtain⟨rfl,c1,o1⟩:=h1.co
 obtain⟨rfl,c2,o2⟩:=h2.co
 exact⟨_,s,_,t,rfl,h1,h2,c1,o1,c2,o2,rfl,rfl⟩
theorem pl4 {H:IH} {k:Nat} {a s b t:Value} (g:H.ext.get k=some (.cells [a,s,b,t] 0 none)):load prog H 135 (ptr (2*k) 0)=some (.agg #[a,s])∧load prog H 135 (ptr (2*k) 2)=some (.agg #[b,t])∧load prog H 137 (ptr (2*k) 0)=some (.agg #[a,s,b,t]):=by
 have r:=aj g
 refine⟨?_,?_,?_⟩
 ·simp -dsimp (disch:=omega) only[wpS,wpT,zL,zA,bE,r]
  rfl
 ·simp -dsimp (disch:=omega) only[wpS,wpT,zL,zA,bE,r]
  rfl
 ·simp -dsimp (disch:=omega) only[wpS,wpT,zL,zA,fA,r]
  rfl
theorem pl2 {H:IH} {k:Nat} {a s:Value} (g:H.ext.get k=some (.cells [a,s] 0 none)):load prog H 135 (ptr (2*k) 0)=some (.agg #[a,s]):=by
 have r:=aj g
 simp -dsimp (disch:=omega) only[wpS,wpT,zL,zA,bE,r]
 rfl
theorem jj {h:IH} {v w:Value} {x y:Rat} {a b:Nat} (hv:bg h v x) (hw:bg h w y) (qx:QB a x) (qy:QB b y) (hk:a+b+1<16000000) :
  WV prog (.func (.func 83) #[] #[]) [v,w] h fun r h'=>Ext h h'∧bg h' r (x+y):=by
 obtain⟨a1,s1,b1,t1,rfl,hn1,hd1,c1,o1,c2,o2,o3,o4⟩:=hv.parts
 obtain⟨a2,s2,b2,t2,rfl,hn2,hd2,c5,o5,c6,o6,o7,o8⟩:=hw.parts
 refine enter (nt:=22) (rs:=[.cell 4 137]) Proofs.Tryz.func83 rfl rfl rfl (by simp) ?_
 simp -dsimp (disch:=omega) only[wpS,zE,zA,dr]
 obtain⟨H0,hH0,n0,E0,g0,g1,g2⟩:=fP h [a1,s1,b1,t1] [a2,s2,b2,t2] ZR
 rw[←hH0]
 clear hH0
 have X0:=Ext.refl H0
 obtain⟨L1,L2,_⟩:=pl4 g0
 obtain⟨L3,L4,_⟩:=pl4 g1
 refine drawn [(6,[4]),(8,[4]),(12,[4,9,10]),(14,[4,9,10])] (by kernel_rfl) (by kernel_rfl) rfl ?_
 simp -dsimp (disch:=omega) only[wpS,wpT,zE,zL,zA,fM,bE,gX,aj g0,aj g1,tkA,tkB]
 refine call (gf (hn1.aa E0.aa) (hd2.aa E0.aa) (aS qx.1 (by omega)) (aS qy.dM (by omega))) ?_
 rintro r1 h1 ⟨X1,p1⟩
 have m1:=X1.n
 simp -dsimp (disch:=omega) only[wpS,wpT,zE,zL,zA,fM,bE,gX,aj (X1.kept (by omega) g0),aj (X1.kept (by omega) g1),tkA,tkB]
 refine call (gf (hn2.aa (E0.trans X1).aa) (hd1.aa (E0.trans X1).aa) (aS qy.1 (by omega)) (aS qx.dM (by omega))) ?_
 rintro r2 h2 ⟨hE2,p2⟩
 have m2:=hE2.n
 have X2:=X1.trans hE2
 simp -dsimp (disch:=omega) only[wpS,zE]
 have b1':=bQ qx.1 qy.dM
 have b2':=bQ qy.1 qx.dM
 have b3':=qx.XR qy
 have b4':=bQ qx.dM qy.dM
 have sb1:aU (x.num*y.den):=bt b1' (by omega)
 have sb2:aU (y.num*x.den):=bt b2' (by omega)
 have sb3:aU (x.num*y.den+y.num*x.den):=bt b3' hk
 have sb4:aU ((x.den:Int)*y.den):=bt b4' (by omega)
 refine call (qC (p1.aa hE2.aa) p2 sb1 sb2) ?_
 rintro r3 h3 ⟨hE3,p3⟩
 have m3:=hE3.n
 have X3:=X2.trans hE3
 simp -dsimp (disch:=omega) only[wpS,wpT,zE,zL,zA,bE,gX,aj (X3.kept (by omega) g0),aj (X3.kept (by omega) g1),tkB]
 refine call (gf (hd1.aa (E0.trans X3).aa) (hd2.aa (E0.trans X3).aa) (aS qx.dM (by omega)) (aS qy.dM (by omega))) ?_
 rintro r4 h4 ⟨hE4,p4⟩
 have m4:=hE4.n
 have X4:=X3.trans hE4
 simp -dsimp (disch:=omega) only[wpS,zE]
 refine call (rL (p3.aa hE4.aa) p4 sb3 sb4 (Cy x y)) ?_
 rintro r5 h5 ⟨hE5,p5⟩
 have m5:=hE5.n
 have X5:=X4.trans hE5
 rw[←uI] at p5
 obtain⟨a3,s3,b3,t3,rfl,_,_,d1,o1,d2,o2,o3,o4⟩:=p5.parts
 have kg:=X5.kept (by omega) g2
 simp -dsimp (disch:=omega) only[wpS,wpT,zE,zL,zA,cQ,kg,o1,o2,o3,o4]
 refine⟨by repeat' first|refine ay ?_ ?_|refine az ?_ ?_|exact ad rfl rfl rfl rfl (aT (H0:=H0) rfl (by omega) (by assumption) (by assumption) (by with_reducible assumption)),?_⟩
 simp -dsimp (disch:=omega) only[wpS,wpT,zE,zL,zA,fA,fg]
 exact⟨(E0.trans X5).put (by omega) _,p5.aa ((aJ.refl _).put kg _)⟩
theorem iZ {h:IH} {v w:Value} {x y:Rat} {a b:Nat} (hv:bg h v x) (hw:bg h w y) (qx:QB a x) (qy:QB b y) (hk:a+b<16000000) :
  WV prog (.func (.func 87) #[] #[]) [v,w] h fun r h'=>Ext h h'∧bg h' r (x*y):=by
 obtain⟨a1,s1,b1,t1,rfl,hn1,hd1,c1,o1,c2,o2,o3,o4⟩:=hv.parts
 obtain⟨a2,s2,b2,t2,rfl,hn2,hd2,c5,o5,c6,o6,o7,o8⟩:=hw.parts
 refine enter (nt:=16) (rs:=[.cell 4 137]) Proofs.Tryz.func87 rfl rfl rfl (by simp) ?_
 simp -dsimp (disch:=omega) only[wpS,zE,zA,dr]
 obtain⟨H0,hH0,n0,E0,g0,g1,g2⟩:=fP h [a1,s1,b1,t1] [a2,s2,b2,t2] ZR
 rw[←hH0]
 clear hH0
 have X0:=Ext.refl H0
 obtain⟨L1,L2,_⟩:=pl4 g0
 obtain⟨L3,L4,_⟩:=pl4 g1
 have sb1:aU (x.num*y.num):=bt (bQ qx.1 qy.1) hk
 have sb2:aU ((x.den:Int)*y.den):=bt (bQ qx.dM qy.dM) hk
 refine drawn [(6,[4]),(8,[4])] (by kernel_rfl) (by kernel_rfl) rfl ?_
 simp -dsimp (disch:=omega) only[wpS,wpT,zE,zL,zA,fM,bE,aj g0,aj g1,tkA]
 refine call (gf (hn1.aa E0.aa) (hn2.aa E0.aa) (aS qx.1 (by omega)) (aS qy.1 (by omega))) ?_
 rintro r1 h1 ⟨X1,p1⟩
 have m1:=X1.n
 simp -dsimp (disch:=omega) only[wpS,wpT,zE,zL,zA,bE,gX,aj (X1.kept (by omega) g0),aj (X1.kept (by omega) g1),tkB]
 refine call (gf (hd1.aa (E0.trans X1).aa) (hd2.aa (E0.trans X1).aa) (aS qx.dM (by omega)) (aS qy.dM (by omega))) ?_
 rintro r2 h2 ⟨hE2,p2⟩
 have m2:=hE2.n
 have X2:=X1.trans hE2
 simp -dsimp (disch:=omega) only[wpS,zE]
 refine call (rL (p1.aa hE2.aa) p2 sb1 sb2 (Cy x y)) ?_
 rintro r5 h5 ⟨hE5,p5⟩
 have m5:=hE5.n
 have X5:=X2.trans hE5
 rw[←yi] at p5
 obtain⟨a3,s3,b3,t3,rfl,_,_,d1,o1,d2,o2,o3,o4⟩:=p5.parts
 have kg:=X5.kept (by omega) g2
 simp -dsimp (disch:=omega) only[wpS,wpT,zE,zL,zA,cQ,kg,o1,o2,o3,o4]
 refine⟨by repeat' first|refine ay ?_ ?_|refine az ?_ ?_|exact ad rfl rfl rfl rfl (aT (H0:=H0) rfl (by omega) (by assumption) (by assumption) (by with_reducible assumption)),?_⟩
 simp -dsimp (disch:=omega) only[wpS,wpT,zE,zL,zA,fA,fg]
 exact⟨(E0.trans X5).put (by omega) _,p5.aa ((aJ.refl _).put kg _)⟩
theorem zm {h:IH} {v w:Value} {x y:Rat} {a b:Nat} (hv:bg h v x) (hw:bg h w y) (qx:QB a x) (qy:QB b y) (hk:a+b<16000000) (y0:y≠0) :
  WV prog (.func (.func 84) #[] #[]) [v,w] h fun r h'=>Ext h h'∧bg h' r (x / y):=by
 obtain⟨a1,s1,b1,t1,rfl,hn1,hd1,c1,o1,c2,o2,o3,o4⟩:=hv.parts
 obtain⟨a2,s2,b2,t2,rfl,hn2,hd2,c5,o5,c6,o6,o7,o8⟩:=hw.parts
 refine enter (nt:=16) (rs:=[.cell 4 137]) Proofs.Tryz.func84 rfl rfl rfl (by simp) ?_
 simp -dsimp (disch:=omega) only[wpS,zE,zA,dr]
 obtain⟨H0,hH0,n0,E0,g0,g1,g2⟩:=fP h [a1,s1,b1,t1] [a2,s2,b2,t2] ZR
 rw[←hH0]
 clear hH0
 have X0:=Ext.refl H0
 obtain⟨L1,L2,_⟩:=pl4 g0
 obtain⟨L3,L4,_⟩:=pl4 g1
 have sb1:aU (x.num*y.den):=bt (bQ qx.1 qy.dM) hk
 have sb2:aU ((x.den:Int)*y.num):=bt (bQ qx.dM qy.1) hk
 refine drawn [(6,[4]),(8,[4])] (by kernel_rfl) (by kernel_rfl) rfl ?_
 simp -dsimp (disch:=omega) only[wpS,wpT,zE,zL,zA,fM,bE,gX,aj g0,aj g1,tkA,tkB]
 refine call (gf (hn1.aa E0.aa) (hd2.aa E0.aa) (aS qx.1 (by omega)) (aS qy.dM (by omega))) ?_
 rintro r1 h1 ⟨X1,p1⟩
 have m1:=X1.n
 simp -dsimp (disch:=omega) only[wpS,wpT,zE,zL,zA,fM,bE,gX,aj (X1.kept (by omega) g0),aj (X1.kept (by omega) g1),tkA,tkB]
 refine call (gf (hd1.aa (E0.trans X1).aa) (hn2.aa (E0.trans X1).aa) (aS qx.dM (by omega)) (aS qy.1 (by omega))) ?_
 rintro r2 h2 ⟨hE2,p2⟩
 have m2:=hE2.n
 have X2:=X1.trans hE2
 simp -dsimp (disch:=omega) only[wpS,zE]
 refine call (rL (p1.aa hE2.aa) p2 sb1 sb2 (Int.mul_ne_zero (Av x) (IN y0))) ?_
 rintro r5 h5 ⟨hE5,p5⟩
 have m5:=hE5.n
 have X5:=X2.trans hE5
 rw[←yj] at p5
 obtain⟨a3,s3,b3,t3,rfl,_,_,d1,o1,d2,o2,o3,o4⟩:=p5.parts
 have kg:=X5.kept (by omega) g2
 simp -dsimp (disch:=omega) only[wpS,wpT,zE,zL,zA,cQ,kg,o1,o2,o3,o4]
 refine⟨by repeat' first|refine ay ?_ ?_|refine az ?_ ?_|exact ad rfl rfl rfl rfl (aT (H0:=H0) rfl (by omega) (by assumption) (by assumption) (by with_reducible assumption)),?_⟩
 simp -dsimp (disch:=omega) only[wpS,wpT,zE,zL,zA,fA,fg]
 exact⟨(E0.trans X5).put (by omega) _,p5.aa ((aJ.refl _).put kg _)⟩
theorem Ef (x y:Rat):(if x.num*y.den<y.num*x.den then (-1:Int) else if x.num*y.den=y.num*x.den then 0 else 1)=if x<y then -1 else if x=y then 0 else 1:=by
 simp only[Rat.lt_iff,Rat.eq_iff_mul_eq_mul]
theorem rH {h:IH} {v w:Value} {x y:Rat} {a b:Nat} (hv:bg h v x) (hw:bg h w y) (qx:QB a x) (qy:QB b y) (hk:a+b<16000000) :
  WV prog (.func (.func 90) #[] #[]) [v,w] h fun r h'=>Ext h h'∧r=KI (if x<y then -1 else if x=y then 0 else 1):=by
 obtain⟨a1,s1,b1,t1,rfl,hn1,hd1,c1,o1,c2,o2,o3,o4⟩:=hv.parts
 obtain⟨a2,s2,b2,t2,rfl,hn2,hd2,c5,o5,c6,o6,o7,o8⟩:=hw.parts
 refine enter (nt:=16) (rs:=[.tmp 4]) Proofs.Tryz.func90 rfl rfl rfl (by simp) ?_
 simp -dsimp (disch:=omega) only[wpS,zE,zA]
 obtain⟨H0,hH0,n0,E0,g0,g1⟩:=dY h [a1,s1,b1,t1] [a2,s2,b2,t2]
 rw[←hH0]
 clear hH0
 have X0:=Ext.refl H0
 obtain⟨L1,L2,_⟩:=pl4 g0
 obtain⟨L3,L4,_⟩:=pl4 g1
 have sb1:aU (x.num*y.den):=bt (bQ qx.1 qy.dM) hk
 have sb2:aU (y.num*x.den):=bt (by rw[Nat.add_comm];exact bQ qy.1 qx.dM) hk
 refine drawn [(6,[4]),(8,[4])] (by kernel_rfl) (by kernel_rfl) rfl ?_
 simp -dsimp (disch:=omega) only[wpS,wpT,zE,zL,zA,fM,bE,gX,aj g0,aj g1,tkA,tkB]
 refine call (gf (hn1.aa E0.aa) (hd2.aa E0.aa) (aS qx.1 (by omega)) (aS qy.dM (by omega))) ?_
 rintro r1 h1 ⟨X1,p1⟩
 have m1:=X1.n
 simp -dsimp (disch:=omega) only[wpS,wpT,zE,zL,zA,fM,bE,gX,aj (X1.kept (by omega) g0),aj (X1.kept (by omega) g1),tkA,tkB]
 refine call (gf (hn2.aa (E0.trans X1).aa) (hd1.aa (E0.trans X1).aa) (aS qy.1 (by omega)) (aS qx.dM (by omega))) ?_
 rintro r2 h2 ⟨hE2,p2⟩
 have m2:=hE2.n
 have X2:=X1.trans hE2
 simp -dsimp (disch:=omega) only[wpS,zE]
 refine call (Dx (p1.aa hE2.aa) p2 sb1 sb2) ?_
 rintro _ h5 ⟨hE5,rfl⟩
 have X5:=X2.trans hE5
 rw[Ef]
 simp -dsimp (disch:=omega) only[wpS,zE]
 refine⟨by repeat' first|refine ay ?_ ?_|refine az ?_ ?_|exact ad rfl rfl rfl rfl (aT (H0:=H0) rfl (by omega) (by assumption) (by assumption) (by with_reducible assumption)),?_⟩
 simp -dsimp (disch:=omega) only[wpS,wpT,zE,zA]
 exact E0.trans X5
theorem zl {h:IH} {v:Value} {x:Rat} (hv:bg h v x) :
  WV prog (.func (.func 247) #[] #[]) [v] h fun r h'=>Ext h h'∧bg h' r (-x):=by
 obtain⟨a1,s1,b1,t1,rfl,hn1,hd1,c1,o1,c2,o2,o3,o4⟩:=hv.parts
 refine enter (nt:=9) (rs:=[.cell 2 137]) Proofs.Tryz.func247 rfl rfl rfl (by simp) ?_
 simp -dsimp (disch:=omega) only[wpS,dr]
 obtain⟨H0,hH0,n0,E0,g0,g1⟩:=dY h [a1,s1,b1,t1] ZR
 rw[←hH0]
 clear hH0
 have X0:=Ext.refl H0
 obtain⟨L1,L2,_⟩:=pl4 g0
 refine drawn [(4,[2])] (by kernel_rfl) (by kernel_rfl) rfl ?_
 simp -dsimp (disch:=omega) only[wpS,wpT,zE,zL,zA,fM,bE,aj g0,tkA]
 refine call (mb (hn1.aa E0.aa)) ?_
 rintro r1 h1 ⟨X1,p1⟩
 have m1:=X1.n
 obtain⟨s3,rfl,c5,o5⟩:=p1.cg
 have kg:=X1.kept (by omega) g1
 simp -dsimp (disch:=omega) only[wpS,wpT,zE,zL,zA,bE,gX,LZ,yp,yo,cQ,aj (X1.kept (by omega) g0),kg,tkB,o5,o2,o4]
 refine⟨by repeat' first|refine ay ?_ ?_|refine az ?_ ?_|exact ad rfl rfl rfl rfl (aT (H0:=H0) rfl (by omega) (by assumption) (by assumption) (by with_reducible assumption)),?_⟩
 simp -dsimp (disch:=omega) only[wpS,wpT,zE,zL,zA,fA,fg]
 have kp:=(aJ.refl h1).put kg (.cells [.bool (decide (-x.num<0)),s3,b1,t1] 0 none)
 exact⟨(E0.trans X1).put (by omega) _,_,_,_,_,rfl,p1.aa kp,hd1.aa ((E0.trans X1).aa.trans kp)⟩
theorem MT {h:IH} {v w:Value} {x y:Rat} {a b:Nat} (hv:bg h v x) (hw:bg h w y) (qx:QB a x) (qy:QB b y) (hk:a+b+1<16000000) :
  WV prog (.func (.func 198) #[] #[]) [v,w] h fun r h'=>Ext h h'∧bg h' r (x - y):=by
 obtain⟨a1,s1,b1,t1,rfl,hn1,hd1,c1,o1,c2,o2,o3,o4⟩:=hv.parts
 obtain⟨a2,s2,b2,t2,rfl,hn2,hd2,c5,o5,c6,o6,o7,o8⟩:=hw.parts
 refine enter (nt:=9) (rs:=[.cell 4 137]) Proofs.Tryz.func198 rfl rfl rfl (by simp) ?_
 simp -dsimp (disch:=omega) only[wpS,zE,zA,dr]
 obtain⟨H0,hH0,n0,E0,g0,g1,g2⟩:=fP h [a1,s1,b1,t1] [a2,s2,b2,t2] ZR
 rw[←hH0]
 clear hH0
 have X0:=Ext.refl H0
 obtain⟨_,_,L1⟩:=pl4 g0
 obtain⟨_,_,L2⟩:=pl4 g1
 refine drawn [(0,[3])] (by kernel_rfl) (by kernel_rfl) rfl ?_
 simp -dsimp (disch:=omega) only[wpS,wpT,zE,zL,zA,fA,aj g0,aj g1,fg]
 refine call (zl (hw.aa E0.aa)) ?_
 rintro r1 h1 ⟨X1,p1⟩
 have m1:=X1.n
 simp -dsimp (disch:=omega) only[wpS,zE]
 refine call (jj (hv.aa (E0.trans X1).aa) p1 qx qy.neg hk) ?_
 rintro r2 h2 ⟨hE2,p2⟩
 have X2:=X1.trans hE2
 have m2:=hE2.n
 rw[←Rat.sub_eq_add_neg] at p2
 obtain⟨a3,s3,b3,t3,rfl,_,_,d1,o1,d2,o2,o3,o4⟩:=p2.parts
 have kg:=X2.kept (by omega) g2
 simp -dsimp (disch:=omega) only[wpS,wpT,zE,zL,zA,cQ,kg,o1,o2,o3,o4]
 refine⟨by repeat' first|refine ay ?_ ?_|refine az ?_ ?_|exact ad rfl rfl rfl rfl (aT (H0:=H0) rfl (by omega) (by assumption) (by assumption) (by with_reducible assumption)),?_⟩
 simp -dsimp (disch:=omega) only[wpS,wpT,zE,zL,zA,fA,fg]
 exact⟨(E0.trans X2).put (by omega) _,p2.aa ((aJ.refl _).put kg _)⟩
end Go.Id
