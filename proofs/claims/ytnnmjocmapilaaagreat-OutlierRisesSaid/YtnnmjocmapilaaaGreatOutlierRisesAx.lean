/-
  Contracts: package kernel: Reversible for all kernels and weights.
-/
import Derived.Test.YtnnmjocmapilaaaGreatOutlierRisesAw
set_option linter.unusedVariables false
set_option linter.unusedSimpArgs false
set_option linter.defProp false
set_option linter.deprecated false
namespace Go.Id
open Go
open Go.Proofs.Tryz (prog)
open Nat renaming reduceAdd→zA,reduceEqDiff→zE
set_option maxHeartbeats 16000000
noncomputable def pG (ll:List (List (Nat×Nat))) (t:List Nat):Int:=open Classical in if ¬dK ll then 330 else if t.length≠ll.length ∨ ∃p∈t,wdI p<0 then 2 else 0
def Eu (ll:List (List (Nat×Nat))) (t:List Nat):Prop:=∀i j,i<ll.length→j<i→cK (t.getD i 0)*kAt ll i j=cK (t.getD j 0)*kAt ll j i
open Classical in
theorem Vh {h:IH} {v w:Value} {ll:List (List (Nat×Nat))} {t:List Nat} (hv:ji h v ll) (hw:ni h w t) :
  WV prog (.func (.func 171) #[] #[]) [v,w] h fun r h'=>Ext h h'∧r=.tuple #[.bool (decide (pG ll t=0∧Eu ll t)),KI (pG ll t)]:=by
 obtain⟨_,_,hlen⟩:=hv.co
 have hlw:=hw.1.len (P:=prog) Em
 have htb:=hw.2.1
 refine enter (nt:=67) (rs:=[.tmp 4,.tmp 5]) Proofs.Tryz.func171 rfl rfl rfl (by simp) ?_
 simp -dsimp (disch:=omega) only[wpS,zE,zA]
 refine call (Pa hv) ?_
 rintro _ h1 ⟨X1,rfl⟩
 by_cases hk:dK ll
 case neg =>
  have e:pG ll t=330:=by rw[pG,if_pos hk]
  rw[e,Vj,if_neg hk,decide_eq_false (fun h=>by have:=h.1;omega)]
  simp -dsimp (disch:=omega) only[wpS,wpT,zE]
  exact X1
 rw[Vj,if_pos hk]
 have l60:=hk.2.1
 by_cases ht:t.length=ll.length
 case neg =>
  have e:pG ll t=2:=by rw[pG,if_neg (fun h=>h hk),if_pos (.inl ht)]
  have d:(((t.length:Nat):Int) != ((ll.length:Nat):Int))=true:=by simpa using fun h=>ht (by omega)
  rw[e,decide_eq_false (fun h=>by have:=h.1;omega)]
  simp -dsimp (disch:=omega) only[wpS,wpT,zE,hlen,hlw,d]
  exact X1
 have d:(((t.length:Nat):Int) != ((ll.length:Nat):Int))=false:=by simp[ht]
 simp -dsimp (disch:=omega) only[wpS,wpT,zE,hlen,hlw,d]
 refine call (EZ (least:=0) (hw.aa X1.aa) ⟨by omega,by omega⟩) ?_
 rintro _ h2 ⟨X2,rfl⟩
 by_cases ux : ∃p∈t,wdI p<0
 case pos =>
  have e:pG ll t=2:=by rw[pG,if_neg (fun h=>h hk),if_pos (.inr ux)]
  rw[decide_eq_true ux,e,decide_eq_false (fun h=>by have:=h.1;omega)]
  simp -dsimp (disch:=omega) only[wpS,wpT,zE]
  exact X1.trans X2
 rw[decide_eq_false ux]
 have re:pG ll t=0:=by rw[pG,if_neg (fun h=>h hk),if_neg (fun h=>h.elim (fun h=>h ht) ux)]
 simp -dsimp (disch:=omega) only[wpS,zE]
 refine call (R0 (hw.aa (X1.trans X2).aa) (by omega)) ?_
 rintro v7 h3 ⟨X3,sv7⟩
 have X03:=(X1.trans X2).trans X3
 have pt : ∀j,j<ll.length→t.getD j 0<W8∧(t.map cK)[j]?=some (cK (t.getD j 0)):=fun j hj=>by
  have hjt:j<t.length:=by omega
  have hm:t.getD j 0∈t:=by rw[List.getD_eq_getElem?_getD,List.getElem?_eq_getElem hjt];exact List.getElem_mem hjt
  refine⟨hw.2.2 _ hm,?_⟩
  rw[List.getElem?_map,List.getD_eq_getElem?_getD,List.getElem?_eq_getElem hjt];rfl
 have hv3:=hv.aa X03.aa
 obtain⟨cst,svt⟩ : ∃cs,bH h3 4 v7 (t.map cK).length cs:=⟨_,sv7.choose_spec.1⟩
 rw[List.length_map,ht] at svt
 simp -dsimp (disch:=omega) only[wpS,zE,hlen]
 refine AH (fun fr H=>Ext h3 H∧ab fr 8=some (.bool (decide (pG ll t=0∧Eu ll t)))) ?_ ?_
 ·refine loop (fun m fr H => ∃i:Nat,i+m=ll.length∧(∀a b,a<i→b<a→cK (t.getD a 0)*kAt ll a b=cK (t.getD b 0)*kAt ll b a)∧Ext h3 H∧ab fr 0=some v∧ab fr 7=some v7∧ab fr 8=some (.bool true)∧ab fr 28=some (KN ll.length)∧ab fr 29=some (KN i)) ll.length
   ⟨0,by omega,fun a b ha=>by omega,Ext.refl _,by simp⟩ ?_
  rintro m fr H ⟨i,him,R,E,f0,f7,f8,f28,f29⟩
  simp -dsimp (disch:=omega) only[wpS,f28,f29]
  refine au ?_ ?_<;>intro hc<;>simp only[decide_eq_true_eq,decide_eq_false_iff_not] at hc
  ·have hi:i<ll.length:=by omega
   simp -dsimp (disch:=omega) only[wpS,wpT,zE,f29]
   refine loop (fun m2 fr H => ∃j:Nat,j+m2=i∧(∀b,b<j→cK (t.getD i 0)*kAt ll i b=cK (t.getD b 0)*kAt ll b i)∧Ext h3 H∧ab fr 0=some v∧ab fr 7=some v7∧ab fr 8=some (.bool true)∧ab fr 9=some (KN i)∧ab fr 28=some (KN ll.length)∧ab fr 29=some (KN i)∧ab fr 32=some (KN i)∧ab fr 33=some (KN j)) i
    ⟨0,by omega,fun b hb=>by omega,E,by simp[f0,f7,f8,f28,f29]⟩ ?_
   clear E f0 f7 f8 f28 f29
   rintro m2 fr H ⟨j,hjm,R2,E,f0,f7,f8,f9,f28,f29,f32,f33⟩
   simp -dsimp (disch:=omega) only[wpS,f32,f33]
   refine au ?_ ?_<;>intro hc2<;>simp only[decide_eq_true_eq,decide_eq_false_iff_not] at hc2
   ·have hj:j<i:=by omega
    obtain⟨ri,p,e1,l1,e2,ok1,nn1,k1⟩:=fi hk (i:=i) (j:=j) (by omega) (by omega)
    obtain⟨rj,q,e3,l3,e4,ok2,nn2,k2⟩:=fi hk (i:=j) (j:=i) (by omega) (by omega)
    obtain⟨wi,A1,A2,A3⟩:=hv3.nT e1
    obtain⟨wj,B1,B2,B3⟩:=hv3.nT e3
    have Lp:=fun h' (K:aK h3 h')=>A2.ld K e2
    have Lq:=fun h' (K:aK h3 h')=>B2.ld K e4
    have ip:=A2.1.idx xl (P:=prog) (k:=.i64) (j:=j) (by omega)
    have iq:=B2.1.idx xl (P:=prog) (k:=.i64) (j:=i) (by omega)
    have wp:=A2.2.2 p (List.mem_of_getElem? e2)
    have wq:=B2.2.2 q (List.mem_of_getElem? e4)
    obtain⟨u1,u2,u3,u4,Lu,pu⟩:=sv7.nT hI (pt j (by omega)).2 BN tC (P:=prog)
    obtain⟨w1,w2,w3,w4,Lw,pw⟩:=sv7.nT hI (pt i (by omega)).2 BN tC (P:=prog)
    have iu:=svt.idx Bg (P:=prog) (k:=.i64) (j:=j) (by omega)
    have iw:=svt.idx Bg (P:=prog) (k:=.i64) (j:=i) (by omega)
    have K0:=E.aa
    have qb1:QB 512 (kAt ll i j):=by rw[k1];exact iO wp.1 wp.2 ok1
    have qb2:QB 512 (kAt ll j i):=by rw[k2];exact iO wq.1 wq.2 ok2
    have qb3:=lI (pt j (by omega)).1
    have qb4:=lI (pt i (by omega)).1
    simp -dsimp (disch:=omega) only[wpS,wpT,zE,f33]
    refine drawn [(3,[12]),(16,[11,12,25]),(20,[11,12]),(23,[11,12])] (by kernel_rfl) (by kernel_rfl) rfl ?_
    simp -dsimp (disch:=omega) only[wpS,zE,f0,f7,f9,iw,Lw H K0,A3,A1 H K0,ip,Lp H K0]
    refine call (dj p.1 p.2 wp.1 wp.2) ?_
    rintro r5 h5 ⟨X5,p5⟩
    have p5:=p5.rat ok1
    rw[←k1] at p5
    have K5:=(E.trans X5).aa
    simp -dsimp (disch:=omega) only[wpS,zE]
    refine call (jq (pw.aa K5) p5 qb4 qb1 (by omega)) ?_
    rintro r6 h6 ⟨X6,p6⟩
    have E6:=(E.trans X5).trans X6
    have K6:=E6.aa
    simp -dsimp (disch:=omega) only[wpS,zE,f0,f7,f9,iu,Lu h6 K6,B3,B1 h6 K6,iq,Lq h6 K6]
    refine call (dj q.1 q.2 wq.1 wq.2) ?_
    rintro r7 h7 ⟨X7,p7⟩
    have p7:=p7.rat ok2
    rw[←k2] at p7
    have E7:=E6.trans X7
    have K7:=E7.aa
    simp -dsimp (disch:=omega) only[wpS,zE]
    refine call (jq (pu.aa K7) p7 qb3 qb2 (by omega)) ?_
    rintro r8 h8 ⟨X8,p8⟩
    simp -dsimp (disch:=omega) only[wpS,zE]
    refine call (sG (p6.aa (X7.trans X8).aa) p8 (qb4.mul qb1) (qb3.mul qb2) (by omega)) ?_
    rintro _ h9 ⟨X9,rfl⟩
    by_cases c:cK (t.getD i 0)*kAt ll i j=cK (t.getD j 0)*kAt ll j i
    case neg =>
     obtain⟨z,hz,hz0⟩ : ∃z:Int,(if cK (t.getD i 0)*kAt ll i j<cK (t.getD j 0)*kAt ll j i then (-1:Int) else if cK (t.getD i 0)*kAt ll i j=cK (t.getD j 0)*kAt ll j i then 0 else 1)=z∧(z != 0)=true:=⟨_,rfl,by rw[if_neg c];split<;>rfl⟩
     rw[hz]
     simp -dsimp (disch:=omega) only[wpS,zE,hz0]
     refine⟨aw (ad rfl rfl rfl rfl (ai rfl (Lw H K0) (Lw h5 K5))) (aw (aC (ad rfl rfl rfl rfl (ai rfl (Lu h6 K6) (Lu H K0))) (aC (ad rfl rfl rfl rfl (ai rfl (Lu h6 K6) (Lu h5 K5))) (ad rfl rfl rfl rfl (ai rfl (Lu h6 K6) (Lu h7 K7))))) (aw (aC (ad rfl rfl rfl rfl (ai rfl (B1 h6 K6) (B1 H K0))) (ad rfl rfl rfl rfl (ai rfl (B1 h6 K6) (B1 h5 K5)))) (aC (ad rfl rfl rfl rfl (ai rfl (Lq h6 K6) (Lq H K0))) (ad rfl rfl rfl rfl (ai rfl (Lq h6 K6) (Lq h5 K5)))))),?_⟩
     simp -dsimp (disch:=omega) only[wpS,wpT,zE,zA]
     refine⟨(E7.trans X8).trans X9,?_⟩
     rw[decide_eq_false fun h=>c (h.2 i j hi hj)]
     simp
    rw[c,if_neg Rat.lt_irrefl,if_pos rfl]
    simp -dsimp (disch:=omega) only[wpS,wpT,zE]
    refine⟨aw (ad rfl rfl rfl rfl (ai rfl (Lw H K0) (Lw h5 K5))) (aw (aC (ad rfl rfl rfl rfl (ai rfl (Lu h6 K6) (Lu H K0))) (aC (ad rfl rfl rfl rfl (ai rfl (Lu h6 K6) (Lu h5 K5))) (ad rfl rfl rfl rfl (ai rfl (Lu h6 K6) (Lu h7 K7))))) (aw (aC (ad rfl rfl rfl rfl (ai rfl (B1 h6 K6) (B1 H K0))) (ad rfl rfl rfl rfl (ai rfl (B1 h6 K6) (B1 h5 K5)))) (aC (ad rfl rfl rfl rfl (ai rfl (Lq h6 K6) (Lq H K0))) (ad rfl rfl rfl rfl (ai rfl (Lq h6 K6) (Lq h5 K5)))))),?_⟩
    simp -dsimp (disch:=omega) only[wpS,wpT,zE,zA,f33]
    refine⟨m2 - 1,by omega,j+1,by omega,fun b hb=>?_,(E7.trans X8).trans X9,by simp[f0,f7,f8,f9,f28,f29,f32]⟩
    by_cases e:b=j
    ·rw[e];exact c
    ·exact R2 b (by omega)
   ·simp -dsimp (disch:=omega) only[wpS,wpT,zE,f29]
    refine⟨m - 1,by omega,i+1,by omega,fun a b ha hb=>?_,E,by simp[f0,f7,f8,f28]⟩
    by_cases e:a=i
    ·rw[e];exact R2 b (by omega)
    ·exact R a b (by omega) hb
  ·simp -dsimp (disch:=omega) only[wpS,wpT]
   refine⟨E,?_⟩
   rw[decide_eq_true ⟨re,fun a b ha hb=>R a b (by omega) hb⟩]
   simp[f8]
 rintro fr H ⟨E,f8⟩
 rw[re] at f8 ⊢
 simp -dsimp (disch:=omega) only[wpS,wpT,zE,f8]
 exact X03.trans E
end Go.Id
namespace Go.Id
open Go
open Nat renaming reduceAdd→zA,reduceEqDiff→zE,reduceLeDiff→zL
def iG (q:Rat):Int:=q.num / (q.den:Int)
theorem Dg (q:Rat):((iG q:Int):Rat)≤q:=by
 rw[Rat.le_iff]
 show q.num / (q.den:Int)*(q.den:Int)≤q.num*1
 rw[Int.mul_one]
 exact Int.ediv_mul_le _ (by have:=q.den_pos;omega)
theorem Pn (q:Rat):q<((iG q+1:Int):Rat):=by
 rw[Rat.lt_iff]
 show q.num*1<(q.num / (q.den:Int)+1)*(q.den:Int)
 rw[Int.mul_one]
 exact Int.lt_ediv_add_one_mul_self _ (by have:=q.den_pos;omega)
variable {q:Rat}
theorem tL (h:0≤q):0≤iG q:=Int.ediv_nonneg (Rat.num_nonneg.2 h) (by omega)
theorem Pm {z:Int} (h:(z:Rat)≤q):z≤iG q:=by
 have h1:=Pn q
 have h2:(z:Rat)<((iG q+1:Int):Rat):=by grind
 have:=Rat.intCast_lt_intCast.1 h2
 omega
theorem yi {p:Rat} (h:p≤q):iG p≤iG q:=Pm (Rat.le_trans (Dg p) h)
theorem A6 (z:Int):iG (z:Rat)=z:=by
 show z / ((1:Nat):Int)=z
 simp
variable {h:IH}
theorem Q7 {v:Value} {x:Rat} {a:Nat} (hv:bt h v x) (qx:QB a x) (hk:a<16000000) :
  WV Proofs.Tryz.prog (.func (.func 181) #[] #[]) [v] h fun r h'=>Ext h h'∧a9 h' r (iG x):=by
 obtain⟨a1,s1,b1,t1,rfl,hn1,hd1,c1,o1,c2,o2,o3,o4⟩:=hv.parts
 refine enter (nt:=14) (rs:=[.cell 2 135]) Proofs.Tryz.func181 rfl rfl rfl (by simp) ?_
 simp -dsimp (disch:=try exact dx) only[wpS,wpT,zE,zL,zA,jI,gI,bR,iA]
 obtain⟨H0,hH0,n0,E0,g0,g1⟩:=ev h [a1,s1,b1,t1] [.bool false,.slice none 0 0]
 rw[←hH0]
 clear hH0
 simp -dsimp (disch:=try exact dx) only[tkA,tkB]
 refine call (sH (hn1.aa E0.aa) (hd1.aa E0.aa) (bC qx.1 hk) (bC qx.dU hk) (by have:=x.den_pos;omega)) ?_
 rintro _ h1 ⟨X1,q,t,rfl,pq,pt⟩
 have m1:=X1.n
 obtain⟨s2,rfl,c5,o5⟩:=pq.ct
 obtain⟨s3,rfl,c6,o6⟩:=pt.ct
 have k2:=X1.kept (by omega) g1
 simp -dsimp (disch:=try exact dx) only[wpS,wpT,zE,zL,zA,jI,bR,gH,o5,o6,qL,k2]
 obtain⟨H2,hH2⟩ : ∃H,H=(((h1.new (.cells [.bool false,.slice none 0 0] 0 none)).new (.cells [.bool false,.slice none 0 0] 0 none)).put h1.n (.cells [.bool (decide (x.num / (x.den:Int)<0)),s2] 0 none)).put (h1.n+1) (.cells [.bool (decide (x.num % (x.den:Int)<0)),s3] 0 none):=⟨_,rfl⟩
 have E2:Ext h1 H2:=by rw[hH2];exact((((Ext.refl h1).new _).new _).put (by omega) _).put (by omega) _
 rw[←hH2]
 have k3:=E2.kept (by omega) k2
 exact⟨((E0.trans X1).trans E2).put (by omega) _,(pq.aa E2.aa).aa ((aK.refl _).put k3 _)⟩
def rB (e:Rat) (n:Nat):Int:=iG (e*(((n+1:Nat):Int):Rat)) - 1
variable {n:Nat}
theorem nG {e:Rat} (h0:0≤e) (h1:e≤1):0≤iG (e*(((n+1:Nat):Int):Rat))∧iG (e*(((n+1:Nat):Int):Rat))≤n+1:=by
 have hn:(0:Rat)≤(((n+1:Nat):Int):Rat):=Rat.intCast_nonneg.2 (by omega)
 refine⟨tL (Rat.mul_nonneg h0 hn),?_⟩
 have h2:=Rat.mul_le_mul_of_nonneg_right h1 hn
 rw[Rat.one_mul] at h2
 have h3:=yi h2
 rw[A6] at h3
 omega
theorem HU {p:Nat×Nat} (hp:p.1<W8∧p.2<W8) (ok:okS p.1 p.2) (h0:0≤rOf p) (h1:rOf p≤1) (hn:n≤20) :
  WV Proofs.Tryz.prog (.func (.func 80) #[] #[]) [KN n,shV p.1 p.2] h fun r h'=>Ext h h'∧r=KI (rB (rOf p) n):=by
 obtain⟨z0,z1⟩:=nG (n:=n) h0 h1
 refine enter (nt:=27) (rs:=[.tmp 4]) Proofs.Tryz.func80 rfl rfl rfl (by simp) ?_
 have E1:Ext h (h.new (.cells (shC p.1 p.2) 0 none)):=(Ext.refl h).new _
 simp -dsimp (disch:=omega) only[wpS,zE,zL,zA,cq,aD,ax,aS]
 refine call (dj p.1 p.2 hp.1 hp.2) ?_
 rintro r1 h1 ⟨X1,p1⟩
 simp -dsimp (disch:=omega) only[wpS,zE]
 refine call (fe ((n+1:Nat):Int) ⟨by omega,by omega⟩) ?_
 rintro r2 h2 ⟨X2,p2⟩
 have q1:=iO hp.1 hp.2 ok
 have q2:QB 64 ((((n+1:Nat):Int):Rat)):=QB.int (by omega)
 simp -dsimp (disch:=omega) only[wpS,zE]
 refine call (jq ((p1.rat ok).aa X2.aa) p2 q1 q2 (by omega)) ?_
 rintro r3 h3 ⟨X3,p3⟩
 simp -dsimp (disch:=omega) only[wpS,zE]
 refine call (Q7 p3 (q1.mul q2) (by omega)) ?_
 rintro r4 h4 ⟨X4,p4⟩
 obtain⟨z,hz⟩:=aT (iG (rOf (p.1,p.2)*(((n+1:Nat):Int):Rat)))
 rw[←hz] at p4
 have hz':z=iG (rOf p*(((n+1:Nat):Int):Rat)):=hz
 rw[←hz'] at z0 z1
 unfold rB
 rw[←hz']
 clear hz hz'
 simp -dsimp (disch:=omega) only[wpS,zE]
 refine call (qW p4) ?_
 rintro _ h5 ⟨X5,rfl⟩
 have z64:fZ z:=⟨by omega,by omega⟩
 rw[if_pos (jL z64)]
 simp -dsimp (disch:=omega) only[wpS,wpT,zE,zL,zA,nW,lh,fh,cM,aA,cm,eK]
 obtain⟨H6,hH6⟩:=aT ((h5.new (.cells [ZW,ZW,ZW,ZW,ZW,ZW,ZW,ZW] 0 none)).put h5.n (.cells (wdC (aY z)) 0 none))
 have E6:Ext h5 H6:=by rw[hH6];exact((Ext.refl h5).new _).put (Nat.le_refl _) _
 have g6:H6.ext.get h5.n=some (.cells (wdC (aY z)) 0 none):=by rw[hH6];simp (disch:=omega) only[ae]
 rw[←hH6]
 clear hH6
 simp -dsimp (disch:=omega) only[bZ]
 refine call (I9 (aY z) (ec (jL z64))) ?_
 rintro _ h7 ⟨X7,rfl⟩
 rw[cB (jL z64),if_pos z64]
 simp -dsimp (disch:=omega) only[wpS,wpT,zE]
 exact((((((E1.trans X1).trans X2).trans X3).trans X4).trans X5).trans E6).trans X7
open Go.Proofs.Tryz (prog)
set_option maxHeartbeats 16000000
noncomputable def uj (ll:List (List (Nat×Nat))) (t:List Nat) (f:List (Nat×Nat)) (e:Nat×Nat) (n:Int):Int:=open Classical in
 if pG ll t≠0 then pG ll t else if ¬(∃p∈t,p≠0) then 7 else if ¬Eu ll t then 5 else if ∃p∈f ++ [e],¬okS p.1 p.2 then 20
 else if f.length≠ll.length∨rOf e<0∨1<rOf e∨n<0∨20<n then 2 else 0
variable {h:IH}
theorem JT {p:Nat} (hp:p<W8):WV prog (.func (.func 172) #[] #[]) [wdV p] h fun r h'=>Ext h h'∧r=.bool (decide (p≠0)):=by
 refine enter (nt:=6) (rs:=[.tmp 2]) Proofs.Tryz.func172 rfl rfl rfl (by simp) ?_
 have hne : ∀ox oy,binop prog .neq 30 ox oy (.agg (wdC p).toArray) (.agg #[.int .u64 0,.int .u64 0,.int .u64 0,.int .u64 0,.int .u64 0,.int .u64 0,.int .u64 0,.int .u64 0])=some (.bool (decide (p≠0))):=fun ox oy=>(Qh hp (Nat.lt_of_le_of_lt (Nat.zero_le _) hp) ox oy).trans (by
  by_cases c:p=0
  ·rw[decide_eq_true c,decide_eq_false (fun h=>h c)];rfl
  ·rw[decide_eq_false c,decide_eq_true c];rfl)
 simp -dsimp (disch:=omega) only[wpS,wpT,zE,zL,fh,FL,cM,aA,bZ,hne]
 exact(Ext.refl h).new _
open Classical in
theorem JS {p:Nat×Nat} (hp:p.1<W8∧p.2<W8):WV prog (.func (.func 174) #[] #[]) [shV p.1 p.2] h fun r h'=>Ext h h'∧r=.bool (decide (¬okS p.1 p.2)):=by
 refine enter (nt:=6) (rs:=[.tmp 2]) Proofs.Tryz.func174 rfl rfl rfl (by simp) ?_
 simp -dsimp (disch:=omega) only[wpS,zE,zL,cq,aD,ax,aS]
 refine call (pD p.1 p.2 hp.1 hp.2) ?_
 rintro _ h1 ⟨X1,rfl⟩
 have E1:Ext h (h.new (.cells (shC p.1 p.2) 0 none)):=(Ext.refl h).new _
 by_cases c:okS p.1 p.2
 ·rw[if_pos c,decide_eq_false (fun h=>h c)]
  simp -dsimp (disch:=omega) only[wpS,wpT,zE]
  exact E1.trans X1
 ·rw[if_neg c,decide_eq_true c]
  simp -dsimp (disch:=omega) only[wpS,wpT,zE]
  exact E1.trans X1
open Classical in
theorem CP {kv wv fv:Value} {ll:List (List (Nat×Nat))} {t:List Nat} {f:List (Nat×Nat)} {e:Nat×Nat} {n:Int} (hk:ji h kv ll) (hw:ni h wv t) (hf:gw h fv f) (hne:fv=.slice none 0 0∨0<f.length) (hfl:f.length≤1000) (he:e.1<W8∧e.2<W8) (hn:fZ n) :
  WV prog (.func (.func 74) #[] #[]) [kv,wv,fv,KI n,shV e.1 e.2] h fun r h'=>Ext h h'∧r=KI (uj ll t f e n):=by
 obtain⟨H0,hH0⟩:=aT (h.new (.cells (shC e.1 e.2) 0 none))
 have E0:Ext h H0:=by rw[hH0];exact(Ext.refl h).new _
 have n0:H0.n=h.n+1:=by rw[hH0];rfl
 have g9:H0.ext.get h.n=some (.cells (shC e.1 e.2) 0 none):=by rw[hH0];simp (disch:=omega) only[ah]
 obtain⟨_,_,hlen⟩:=hk.co
 have O0:=hf.1.len (P:=prog) tZ
 refine enter (nt:=61) (rs:=[.tmp 10]) Proofs.Tryz.func74 rfl rfl rfl (by simp) ?_
 simp -dsimp (disch:=omega) only[wpS,zE,zA,aD]
 rw[←hH0]
 clear hH0
 refine call (Vh (hk.aa E0.aa) (hw.aa E0.aa)) ?_
 rintro _ h1 ⟨X1,rfl⟩
 have E1:=E0.trans X1
 unfold uj
 by_cases e0:pG ll t=0
 case neg =>
  rw[if_pos e0]
  have d:(pG ll t != 0)=true:=by simpa using e0
  simp -dsimp (disch:=omega) only[wpS,wpT,zE,d]
  exact E1
 rw[if_neg (fun h=>h e0),e0]
 simp -dsimp (disch:=omega) only[wpS,wpT,zE]
 refine call (qG (hw.aa E1.aa) (fun p=>p≠0) fun H p X hp=>(JT (hw.2.2 p hp)).mono fun r h' q=>⟨q.1,q.2.trans (by congr)⟩) ?_
 rintro _ h2 ⟨X2,rfl⟩
 have E2:=E1.trans X2
 by_cases hz : ∃p∈t,p≠0
 case neg =>
  have hd : ∀i:Decidable (∃p∈t,p≠0),@decide _ i=false:=fun i=>decide_eq_false hz
  rw[hd,if_pos hz]
  simp -dsimp (disch:=omega) only[wpS,wpT,zE]
  exact E2
 have hd : ∀i:Decidable (∃p∈t,p≠0),@decide _ i=true:=fun i=>decide_eq_true hz
 rw[hd,if_neg (fun h=>h hz)]
 by_cases hb:Eu ll t
 case neg =>
  rw[if_pos hb,decide_eq_false hb]
  simp -dsimp (disch:=omega) only[wpS,wpT,zE]
  exact E2
 rw[if_neg (fun h=>h hb),decide_eq_true hb]
 simp -dsimp (disch:=omega) only[wpS,wpT,zE]
 have g92:=(X1.trans X2).kept (by omega) g9
 obtain⟨_,_,L2⟩:=psh g92
 refine drawn [(2,[1,4])] (by kernel_rfl) (by kernel_rfl) rfl ?_
 simp -dsimp (disch:=omega) only[wpS,zE]
 refine call (Jp (hf.aa E2.aa) hne (by omega)) ?_
 rintro cv h3 ⟨X3,A3⟩
 have g93:=X3.kept (by have:=(X1.trans X2).n;omega) g92
 obtain⟨_,_,L3⟩:=psh g93
 have n3:=X3.n
 obtain⟨out,h4,hap,A4,G4,E4⟩:=A3.tq (P:=prog) (t:=61) KX (m:=1) (new:=shC e.1 e.2) (by omega) (by rw[ax]) (aV _ _) (by omega) (by omega) (E2.trans X3) (Nat.le_trans E2.n (Nat.le_refl _))
 simp -dsimp (disch:=omega) only[wpS,wpT,zE,zL,zA,B9,nR,L3,aD,ax,bg,hap]
 have s4:gw h4 out (f ++ [e]):=⟨by
  have eT:shL f ++ shC e.1 e.2=shL (f ++ [e]):=by rw[shL,shL,List.flatMap_append];simp
  rw[←eT,List.length_append]
  exact A4.sl,by rw[List.length_append];simp;omega,fun p hp=>by
  rcases List.mem_append.1 hp with h|h
  ·exact hf.2.2 p h
  ·rw[List.mem_singleton.1 h];exact he⟩
 refine call (tD s4 (fun p => ¬okS p.1 p.2) fun H p X hp=>(JS (s4.2.2 p hp)).mono fun r h' q=>⟨q.1,q.2.trans (by congr)⟩) ?_
 rintro _ h5 ⟨X5,rfl⟩
 have E5:=E4.trans X5
 simp -dsimp (disch:=omega) only[wpS]
 refine⟨aC (ad rfl rfl rfl rfl (ai rfl L3 L2)) (ad rfl rfl rfl rfl (ai rfl L3 (psh (((Ext.refl h3).new _).kept (by have:=(X1.trans X2).n;have:=X3.n;omega) g93)).2.2)),?_⟩
 by_cases hs : ∃p∈f ++ [e],¬okS p.1 p.2
 case pos =>
  have hd : ∀i:Decidable (∃p∈f ++ [e],¬okS p.1 p.2),@decide _ i=true:=fun i=>decide_eq_true hs
  rw[hd,if_pos hs]
  simp -dsimp (disch:=omega) only[wpS,wpT,zE,zA]
  exact E5
 have hd : ∀i:Decidable (∃p∈f ++ [e],¬okS p.1 p.2),@decide _ i=false:=fun i=>decide_eq_false hs
 rw[hd,if_neg hs]
 have ok:okS e.1 e.2:=Classical.byContradiction fun h=>hs ⟨e,by simp,h⟩
 have hn3:h.n<h3.n:=by have:=(X1.trans X2).n;have:=X3.n;omega
 have g95:=X5.kept (Nat.lt_of_lt_of_le hn3 G4.n) (Grow.box G4 hn3 g93 (fun c e f he=>by cases he;rfl))
 obtain⟨_,_,L5⟩:=psh g95
 simp -dsimp (disch:=omega) only[wpS,wpT,zE,zA,L5]
 refine call (dj e.1 e.2 he.1 he.2) ?_
 rintro r6 h6 ⟨X6,p6⟩
 have p6:=p6.rat ok
 obtain⟨a1,a2,a3,a4,rfl,_,_,d1,o1,d2,o2,o3,o4⟩:=p6.parts
 simp -dsimp (disch:=omega) only[wpS,wpT,zE,zL,zA,dW,df,o1,o2,o3,o4]
 obtain⟨H7,hH7⟩:=aT ((h6.new (.cells ZR 0 none)).put h6.n (.cells [a1,a2,a3,a4] 0 none))
 have F7:Ext h6 H7:=by rw[hH7];exact((Ext.refl h6).new _).put (Nat.le_refl _) _
 have n7:H7.n=h6.n+1:=by rw[hH7];rfl
 have g13:H7.ext.get h6.n=some (.cells [a1,a2,a3,a4] 0 none):=by rw[hH7];simp (disch:=omega) only[ae]
 rw[←hH7]
 clear hH7
 have p7:=p6.aa F7.aa
 have E7:=(E5.trans X6).trans F7
 by_cases c1:f.length=ll.length
 case neg =>
  have d1:(((f.length:Nat):Int) != ((ll.length:Nat):Int))=true:=by simpa using fun h=>c1 (by omega)
  rw[if_pos (.inl c1)]
  refine drawn [(12,[14])] (by kernel_rfl) (by kernel_rfl) rfl ?_
  simp -dsimp (maxSteps:=1000000) (disch:=first|omega|(simp only[aH,aM];omega)|decide +kernel|(repeat first|rw[aH]|rw[aM])) only[wpS,wpT,zE,O0,hlen,d1]
  refine⟨lK rfl rfl rfl,?_⟩
  simp -dsimp (disch:=omega) only[wpS,wpT,zE,zA]
  exact E7
 have d1:(((f.length:Nat):Int) != ((ll.length:Nat):Int))=false:=by simp[c1]
 obtain⟨_,_,_,_,hh,hn1,hd1,_⟩:=p7.parts
 cases hh
 have X70:=Ext.refl H7
 refine drawn [(12,[14])] (by kernel_rfl) (by kernel_rfl) rfl ?_
 simp -dsimp (disch:=omega) only[wpS,wpT,zE,zL,zA,gI,bR,O0,hlen,d1,aj g13,tkA]
 refine call (mE hn1) ?_
 rintro _ h8 ⟨X8,rfl⟩
 have E8:=E7.trans X8
 obtain⟨z,hz,hz2⟩ : ∃z:Int,(if (rOf e).num<0 then (-1:Int) else if (rOf e).num=0 then 0 else 1)=z∧(z<0↔rOf e<0):=⟨_,rfl,by
  rw[show rOf e<0↔(rOf e).num<0 by rw[←Int.not_le,←Rat.not_le,Rat.num_nonneg]]
  by_cases h:(rOf e).num<0
  ·rw[if_pos h];exact⟨fun _=>h,fun _=>by omega⟩
  ·rw[if_neg h];refine⟨fun k=>?_,fun k=>absurd k h⟩;split at k<;>omega⟩
 rw[hz]
 by_cases c2:rOf e<0
 ·have d2:decide (z<0)=true:=decide_eq_true (hz2.2 c2)
  rw[if_pos (.inr (.inl c2))]
  simp -dsimp (maxSteps:=1000000) (disch:=first|omega|(simp only[aH,aM];omega)|decide +kernel|(repeat first|rw[aH]|rw[aM])) only[wpS,wpT,zE,d2]
  refine⟨lK rfl rfl rfl,?_⟩
  simp -dsimp (disch:=omega) only[wpS,wpT,zE,zA]
  exact E8
 have d2:decide (z<0)=false:=decide_eq_false (fun h=>c2 (hz2.1 h))
 have g138:=X8.kept (by omega) g13
 obtain⟨_,_,L8⟩:=pl4 g138
 simp -dsimp (disch:=omega) only[wpS,wpT,zE,d2,L8]
 refine call (fe 1 ⟨by omega,by omega⟩) ?_
 rintro r9 h9 ⟨X9,p9⟩
 obtain⟨_,_,L9⟩:=pl4 (X9.kept (by have:=X8.n;omega) g138)
 simp -dsimp (disch:=omega) only[wpS,wpT,zE]
 refine call (sG (p7.aa (X8.trans X9).aa) p9 (iO he.1 he.2 ok) (QB.int (k:=64) (by omega)) (by omega)) ?_
 rintro _ h10 ⟨X10,rfl⟩
 have E10:=(E8.trans X9).trans X10
 obtain⟨w,hw1,hw2⟩ : ∃z:Int,(if rOf e<((1:Int):Rat) then (-1:Int) else if rOf e=((1:Int):Rat) then 0 else 1)=z∧(0<z↔1<rOf e):=⟨_,rfl,by
  have e1:((1:Int):Rat)=1:=rfl
  rw[e1]
  by_cases h:rOf e<1
  ·rw[if_pos h];refine⟨fun k=>by omega,fun k=>absurd k (Rat.not_lt.2 (Rat.le_of_lt h))⟩
  ·rw[if_neg h]
   by_cases h2:rOf e=1
   ·rw[if_pos h2,h2];exact⟨fun k=>by omega,fun k=>absurd k Rat.lt_irrefl⟩
   ·rw[if_neg h2]
    exact⟨fun _=>Classical.byContradiction fun k=>h2 (Rat.le_antisymm (Rat.not_lt.1 k) (Rat.not_lt.1 h)),fun _=>by omega⟩⟩
 rw[hw1]
 by_cases c3:1<rOf e
 ·have d3:decide (0<w)=true:=decide_eq_true (hw2.2 c3)
  rw[if_pos (.inr (.inr (.inl c3)))]
  simp -dsimp (maxSteps:=1000000) (disch:=first|omega|(simp only[aH,aM];omega)|decide +kernel|(repeat first|rw[aH]|rw[aM])) only[wpS,wpT,zE,d3]
  refine⟨ad rfl rfl rfl rfl (ai rfl L8 L9),?_⟩
  simp -dsimp (disch:=omega) only[wpS,wpT,zE,zA]
  exact E10
 have d3:decide (0<w)=false:=decide_eq_false (fun h=>c3 (hw2.1 h))
 by_cases c4:n<0
 ·have d4:decide (n<0)=true:=decide_eq_true c4
  rw[if_pos (.inr (.inr (.inr (.inl c4))))]
  simp -dsimp (maxSteps:=1000000) (disch:=first|omega|(simp only[aH,aM];omega)|decide +kernel|(repeat first|rw[aH]|rw[aM])) only[wpS,wpT,zE,d3,d4]
  refine⟨ad rfl rfl rfl rfl (ai rfl L8 L9),?_⟩
  simp -dsimp (disch:=omega) only[wpS,wpT,zE,zA]
  exact E10
 have d4:decide (n<0)=false:=decide_eq_false c4
 by_cases c5:20<n
 ·have d5:decide (20<n)=true:=decide_eq_true c5
  rw[if_pos (.inr (.inr (.inr (.inr c5))))]
  simp -dsimp (maxSteps:=1000000) (disch:=first|omega|(simp only[aH,aM];omega)|decide +kernel|(repeat first|rw[aH]|rw[aM])) only[wpS,wpT,zE,d3,d4,d5]
  refine⟨ad rfl rfl rfl rfl (ai rfl L8 L9),?_⟩
  simp -dsimp (disch:=omega) only[wpS,wpT,zE,zA]
  exact E10
 have d5:decide (20<n)=false:=decide_eq_false c5
 rw[if_neg (fun h=>by
  rcases h with h|h|h|h|h
  ·exact h c1
  ·exact c2 h
  ·exact c3 h
  ·exact c4 h
  ·exact c5 h)]
 simp -dsimp (maxSteps:=1000000) (disch:=first|omega|(simp only[aH,aM];omega)|decide +kernel|(repeat first|rw[aH]|rw[aM])) only[wpS,wpT,zE,d3,d4,d5]
 refine⟨ad rfl rfl rfl rfl (ai rfl L8 L9),?_⟩
 simp -dsimp (disch:=omega) only[wpS,wpT,zE,zA]
 exact E10
def upV (a b:Nat→Rat) (most:Int) (M i:Nat):Rat:=rs M fun j=>if (i:Int)+(j:Int)≤most then a i*b j else 0
def upP (a b:Nat→Rat) (most:Int) (M i j:Nat):Rat:=rs i (upV a b most M)+rs j fun j=>if (i:Int)+(j:Int)≤most then a i*b j else 0
theorem Qo (a b:Nat→Rat) (most:Int) (M i j:Nat):upP a b most M i (j+1)=if (i:Int)+(j:Int)≤most then upP a b most M i j+a i*b j else upP a b most M i j:=by
 unfold upP
 rw[rs]
 split
 ·rw[Rat.add_assoc]
 ·rw[Rat.add_zero]
theorem Ud (a b:Nat→Rat) (most:Int) (M i:Nat):upP a b most M i M=upP a b most M (i+1) 0:=by
 unfold upP
 rw[rs,rs,Rat.add_zero]
 rfl
variable {x y K i:Nat}{most:Int}{L:Nat}
theorem XC {a b:Nat→Rat} {M N:Nat} (hL:0<L) (hx:L≤2 ^ x) (hK:0<K) (hy:K≤2 ^ y) (oa : ∀i,i<N→OvL L x (a i)) (ob : ∀j,j<M→OvL K y (b j)) {j:Nat} (hi:i<N) (hj:j≤M):QB (x+y+M+N+1) (upP a b most M i j):=by
 have z:L*K≤2 ^ (x+y):=by rw[Nat.pow_add];exact Nat.mul_le_mul hx hy
 have zp:0<L*K:=Nat.mul_pos hL hK
 have t : ∀i j,i<N→j<M→OvL (L*K) (x+y) (if (i:Int)+(j:Int)≤most then a i*b j else 0):=fun i j hi hj=>((oa i hi).mul (ob j hj)).ite
 have r : ∀i j,i<N→j≤M→OvL (L*K) (x+y+M) (rs j fun j=>if (i:Int)+(j:Int)≤most then a i*b j else 0):=fun i j hi hj=>(OvL.rs zp z fun j' hj'=>t i j' hi (by omega)).mono (by omega)
 have z2:L*K≤2 ^ (x+y+M):=Nat.le_trans z (Nat.pow_le_pow_right (by omega) (by omega))
 exact((((OvL.rs zp z2 (n:=i) (f:=upV a b most M) fun i' hi'=>r i' M (by omega) (Nat.le_refl _)).mono (y:=x+y+M+N) (by omega)).add ((r i j hi hj).mono (by omega)))).qb
def atQ (l:List Rat) (i:Nat):Rat:=l.getD i 0
theorem TC {l:List Rat} (h:i<l.length):l[i]?=some (atQ l i):=by
 unfold atQ
 rw[List.getD_eq_getElem?_getD,List.getElem?_eq_getElem h];rfl
theorem Lr {h:IH} {va vb:Value} {la lb:List Rat} (ha:oz bt h va la) (hb:oz bt h vb lb) (hL:0<L) (hx:L≤2 ^ x) (hK:0<K) (hy:K≤2 ^ y) (oa : ∀i,i<la.length→OvL L x (atQ la i)) (ob : ∀j,j<lb.length→OvL K y (atQ lb j)) (hm:fZ most) (l1:la.length≤1000) (l2:lb.length≤1000) (hk:2*(x+y)+5000<16000000) :
  WV prog (.func (.func 78) #[] #[]) [va,vb,KI most] h fun r h'=>Ext h h'∧bt h' r (rs la.length (upV (atQ la) (atQ lb) most lb.length)):=by
 obtain⟨csa,sa,_,_⟩:=id ha
 obtain⟨csb,sb,_,_⟩:=id hb
 have lena:=sa.len (P:=prog) Cu
 have lenb:=sb.len (P:=prog) Cu
 obtain⟨N,hN⟩:=aT (la.length)
 obtain⟨M,hM⟩:=aT (lb.length)
 rw[←hN] at oa l1 lena sa ⊢
 rw[←hM] at ob l2 lenb sb ⊢
 obtain⟨a,hA⟩:=aT (atQ la)
 obtain⟨b,hB⟩:=aT (atQ lb)
 have atA : ∀i,i<N→la[i]?=some (a i):=fun i hi=>by rw[hA];exact TC (by omega)
 have atB : ∀i,i<M→lb[i]?=some (b i):=fun i hi=>by rw[hB];exact TC (by omega)
 rw[←hA] at oa ⊢
 rw[←hB] at ob ⊢
 clear hA hB
 have qb : ∀i j,i<N→j≤M→QB (x+y+M+N+1) (upP a b most M i j):=fun i j hi hj=>XC hL hx hK hy oa ob hi hj
 refine enter (nt:=40) (rs:=[.cell 6 137]) Proofs.Tryz.func78 rfl rfl rfl (by simp) ?_
 simp -dsimp (disch:=omega) only[wpS,zA,dW]
 have E1:Ext h (h.new (.cells ZR 0 none)):=(Ext.refl h).new _
 have g1:(h.new (.cells ZR 0 none)).ext.get h.n=some (.cells ZR 0 none):=by simp (disch:=omega) only[ah]
 refine call (fe 0 ⟨by omega,by omega⟩) ?_
 rintro z h1 ⟨X1,p1⟩
 have m1:=X1.n
 simp only[aH] at m1
 obtain⟨a3,s3,b3,t3,rfl,_,_,d1,o1,d2,o2,o3,o4⟩:=p1.parts
 have kg:=X1.kept (by simp) g1
 simp -dsimp (disch:=omega) only[wpS,wpT,zE,zL,zA,dW,df,o1,o2,o3,o4,lena]
 have Ex2:Ext h1 ((h1.new (.cells ZR 0 none)).put h1.n (.cells [a3,s3,b3,t3] 0 none)):=((Ext.refl h1).new _).put (Nat.le_refl _) _
 have p0:upP a b most M 0 0=((0:Int):Rat):=by unfold upP;rw[rs,rs,Rat.add_zero];rfl
 rw[←p0] at p1
 refine loop (fun m fr hh => ∃(i:Nat) (z1 z2 z3 z4:Value),i+m=N∧Ext h hh∧h1.n<hh.n∧hh.ext.get h.n=some (.cells ZR 0 none)∧hh.ext.get h1.n=some (.cells [z1,z2,z3,z4] 0 none)∧bt hh (.agg #[z1,z2,z3,z4]) (upP a b most M i 0) ∧
   ab fr 1=some vb∧ab fr 2=some (KI most)∧ab fr 6=some (ptr (2*h.n) 0)∧ab fr 7=some (ptr (2*h1.n) 0)∧ab fr 13=some va∧ab fr 14=some (KN N)∧ab fr 15=some (KN i)) N
  ⟨0,a3,s3,b3,t3,by omega,(E1.trans X1).trans Ex2,by simp,by simp (disch:=omega) only[aq,ak];exact kg,by simp (disch:=omega) only[ae],p1.aa Ex2.aa,by simp⟩ ?_
 clear p1 kg Ex2
 rintro m fr hh ⟨i,z1,z2,z3,z4,him,hE,hn,hg,hg7,hp,f1,f2,f6,f7,f13,f14,f15⟩
 simp -dsimp (disch:=omega) only[wpS,f14,f15]
 refine au ?_ ?_<;>intro hc<;>simp only[decide_eq_true_eq,decide_eq_false_iff_not] at hc
 ·have hi:i<N:=by omega
  obtain⟨c1,c2,c3,c4,hld,hr⟩:=ha.ld hI hE.aa (atA i hi) (P:=prog) (t:=137) BN tC
  obtain⟨_,_,_,_,hhe,_,_,_,q1,_,q2,q3,q4⟩:=hr.parts
  cases hhe
  simp -dsimp (disch:=omega) only[wpS,wpT,zE,zL,zA,dW,df,f1,f13,f15,sa.idx Bg hi,hld,q1,q2,q3,q4,lenb]
  obtain⟨H0,hH0⟩:=aT ((hh.new (.cells ZR 0 none)).put hh.n (.cells [c1,c2,c3,c4] 0 none))
  have e0:Ext hh H0:=by rw[hH0];exact((Ext.refl hh).new _).put (Nat.le_refl _) _
  have n0:H0.n=hh.n+1:=by rw[hH0];rfl
  have g9:H0.ext.get hh.n=some (.cells [c1,c2,c3,c4] 0 none):=by rw[hH0];simp (disch:=omega) only[ae]
  have nn:=hE.n
  refine loop (fun m2 fr H => ∃(j:Nat) (z1 z2 z3 z4:Value),j+m2=M∧Ext h H∧hh.n<H.n∧H.ext.get h.n=some (.cells ZR 0 none)∧H.ext.get h1.n=some (.cells [z1,z2,z3,z4] 0 none)∧bt H (.agg #[z1,z2,z3,z4]) (upP a b most M i j)∧H.ext.get hh.n=some (.cells [c1,c2,c3,c4] 0 none)∧bt H (.agg #[c1,c2,c3,c4]) (a i) ∧
    ab fr 1=some vb∧ab fr 2=some (KI most)∧ab fr 6=some (ptr (2*h.n) 0)∧ab fr 7=some (ptr (2*h1.n) 0)∧ab fr 8=some (KN i)∧ab fr 9=some (ptr (2*hh.n) 0)∧ab fr 13=some va∧ab fr 14=some (KN N)∧ab fr 15=some (KN i)∧ab fr 20=some vb∧ab fr 21=some (KN M)∧ab fr 22=some (KN j)) M
   ⟨0,z1,z2,z3,z4,by omega,by rw[←hH0];exact hE.trans e0,by rw[←hH0];omega,by rw[←hH0];exact e0.kept (by omega) hg,by rw[←hH0];exact e0.kept hn hg7,by rw[←hH0];exact hp.aa e0.aa,by rw[←hH0];exact g9,by rw[←hH0];exact hr.aa e0.aa,by simp[f1,f2,f6,f7,f13,f14,f15]⟩ ?_
  clear hH0 e0 n0 g9 hp hr hg hg7 f1 f2 f6 f7 f13 f14 f15 hld
  rintro m2 fr H ⟨j,z1,z2,z3,z4,hjm,E,hnH,hg,hg7,hp,g9,hr,f1,f2,f6,f7,f8,f9,f13,f14,f15,f20,f21,f22⟩
  simp -dsimp (disch:=omega) only[wpS,f21,f22]
  refine au ?_ ?_<;>intro hc2<;>simp only[decide_eq_true_eq,decide_eq_false_iff_not] at hc2
  ·have hj:j<M:=by omega
   obtain⟨y1,y2,y3,y4,hld,hry⟩:=hb.ld hI E.aa (atB j hj) (P:=prog) (t:=137) BN tC
   obtain⟨_,_,_,_,hhe,_,_,_,q5,_,q6,q7,q8⟩:=hry.parts
   cases hhe
   simp -dsimp (disch:=omega) only[wpS,wpT,zE,zL,zA,dW,df,f20,f22,sb.idx Bg hj,hld,q5,q6,q7,q8]
   obtain⟨H0,hH0⟩:=aT ((H.new (.cells ZR 0 none)).put H.n (.cells [y1,y2,y3,y4] 0 none))
   have e0:Ext H H0:=by rw[hH0];exact((Ext.refl H).new _).put (Nat.le_refl _) _
   have n0:H0.n=H.n+1:=by rw[hH0];rfl
   have gy:H0.ext.get H.n=some (.cells [y1,y2,y3,y4] 0 none):=by rw[hH0];simp (disch:=omega) only[ae]
   rw[←hH0]
   clear hH0
   have nn2:=E.n
   have gz:=e0.kept (by omega) hg
   have gs:=e0.kept (by omega) hg7
   have ga:=e0.kept hnH g9
   have st:=Qo a b most M i j
   simp -dsimp (disch:=omega) only[wpS,zE,f2,f8]
   refine au ?_ ?_<;>intro hc3<;>simp only[decide_eq_true_eq,decide_eq_false_iff_not] at hc3
   ·rw[if_pos (by omega)] at st
    have X0:=Ext.refl H0
    obtain⟨_,_,L1⟩:=pl4 gs
    obtain⟨_,_,L2⟩:=pl4 ga
    obtain⟨_,_,L3⟩:=pl4 gy
    refine drawn [(0,[4])] (by kernel_rfl) (by kernel_rfl) rfl ?_
    simp -dsimp (disch:=omega) only[wpS,wpT,zE,f7,f9,L1,L2,L3]
    refine call (jq (hr.aa e0.aa) (hry.aa e0.aa) (oa i hi).qb (ob j hj).qb (by omega)) ?_
    rintro r2 h2 ⟨X2,p2⟩
    have m2':=X2.n
    simp -dsimp (disch:=omega) only[wpS,zE]
    refine call (iM (hp.aa (e0.trans X2).aa) p2 (qb i j hi (by omega)) ((oa i hi).mul (ob j hj)).qb (by omega)) ?_
    rintro r3 h3 ⟨hE3,p3⟩
    rw[←st] at p3
    have m3:=hE3.n
    have X3:=X2.trans hE3
    obtain⟨a4,s4,b4,t4,rfl,_,_,_,o1,_,o2,o3,o4⟩:=p3.parts
    have k5:=X3.kept (by omega) gs
    have kz:=X3.kept (by omega) gz
    have ka:=X3.kept (by omega) ga
    simp -dsimp (disch:=omega) only[wpS,wpT,zE,zL,zA,df,f7,k5,o1,o2,o3,o4]
    refine⟨ad rfl rfl rfl rfl (aW (H0:=H0) (b:=2*h1.n) (o:=0) f7 (by omega) X0 (by assumption) L1),?_⟩
    simp -dsimp (disch:=omega) only[wpS,wpT,zE,zA,f22]
    refine⟨m2 - 1,by omega,j+1,a4,s4,b4,t4,by omega,((E.trans e0).trans X3).put (by omega) _,by simp only[aM];omega,?_,ae _ _ rfl,p3.aa ((aK.refl _).put k5 _),?_,(hr.aa (e0.trans X3).aa).aa ((aK.refl _).put k5 _),by simp[f1,f2,f6,f7,f8,f9,f13,f14,f15,f20,f21]⟩
    ·rw[ak _ _ (by omega)];exact kz
    ·rw[ak _ _ (by omega)];exact ka
   ·rw[if_neg (by omega)] at st
    rw[←st] at hp
    simp -dsimp (disch:=omega) only[wpS,wpT,zE,f22]
    exact⟨m2 - 1,by omega,j+1,z1,z2,z3,z4,by omega,E.trans e0,by omega,gz,gs,hp.aa e0.aa,ga,hr.aa e0.aa,by simp[f1,f2,f6,f7,f8,f9,f13,f14,f15,f20,f21]⟩
  ·obtain rfl:j=M:=by omega
   rw[Ud] at hp
   simp -dsimp (disch:=omega) only[wpS,wpT,zE,f15]
   have nn2:=E.n
   exact⟨m - 1,by omega,i+1,z1,z2,z3,z4,by omega,E,by omega,hg,hg7,hp,by simp[f1,f2,f6,f7,f13,f14]⟩
 ·obtain rfl:i=N:=by omega
  have e:upP a b most M i 0=rs i (upV a b most M):=by unfold upP;exact Rat.add_zero _
  rw[e] at hp
  obtain⟨_,_,_,_,hhe,_,_,_,o1,_,o2,o3,o4⟩:=hp.parts
  cases hhe
  simp -dsimp (disch:=omega) only[wpS,wpT,zE,zL,zA,df,fO,f6,f7,aj hg7,hg,fF,o1,o2,o3,o4]
  exact⟨hE.put (Nat.le_refl _) _,hp.aa ((aK.refl _).put hg _)⟩
variable {h:IH}{F:Value}
theorem Uj {n0 n1 b N M L x:Nat} {r:Nat→Nat} {q:Nat→Nat→Rat} (hv:Tab h n0 n1 b N M r q) (g:Nat→Rat) (hF : ∀h1 j,Ext h h1→j<N→WV prog F [mkV (r j) M] h1 fun r h2=>Ext h1 h2∧bt h2 r (g j)) (hk : ∀j,j<N→OvL L x (g j)) (hL:0<L) (hx:L≤2 ^ x) (hb:2*x+N+1<16000000) :
  WV prog (.func (.func 230) #[] #[]) [mkV b N,F] h fun r h'=>Ext h h'∧bt h' r (rs N g):=by
 have hQ : ∀i,i≤N→QB (x+i) (rs i g):=fun i hi=>(OvL.rs hL hx fun j hj=>hk j (by omega)).qb
 refine enter (nt:=22) (rs:=[.cell 4 137]) Proofs.Tryz.func230 rfl rfl rfl (by simp) ?_
 simp -dsimp (disch:=omega) only[wpS,zA,dW]
 have E1:Ext h (h.new (.cells ZR 0 none)):=(Ext.refl h).new _
 have g1:(h.new (.cells ZR 0 none)).ext.get h.n=some (.cells ZR 0 none):=by simp (disch:=omega) only[ah]
 refine call (fe 0 ⟨by omega,by omega⟩) ?_
 rintro z h1 ⟨X1,p1⟩
 have m1:=X1.n
 simp only[aH] at m1
 obtain⟨a3,s3,b3,t3,rfl,_,_,d1,o1,d2,o2,o3,o4⟩:=p1.parts
 have kg:=X1.kept (by simp) g1
 simp -dsimp (disch:=omega) only[wpS,wpT,zE,zL,zA,dW,df,o1,o2,o3,o4,hv.len]
 have Ex2:Ext h1 ((h1.new (.cells ZR 0 none)).put h1.n (.cells [a3,s3,b3,t3] 0 none)):=((Ext.refl h1).new _).put (Nat.le_refl _) _
 refine loop (fun m fr hh => ∃(i:Nat) (a s b' t:Value),i+m=N∧Ext h hh∧h1.n<hh.n∧hh.ext.get h.n=some (.cells ZR 0 none)∧hh.ext.get h1.n=some (.cells [a,s,b',t] 0 none)∧bt hh (.agg #[a,s,b',t]) (rs i g) ∧
   ab fr 1=some F∧ab fr 4=some (ptr (2*h.n) 0)∧ab fr 5=some (ptr (2*h1.n) 0)∧ab fr 9=some (mkV b N)∧ab fr 10=some (KN N)∧ab fr 11=some (KN i)) N
  ⟨0,a3,s3,b3,t3,by omega,(E1.trans X1).trans Ex2,by simp,by simp (disch:=omega) only[aq,ak];exact kg,by simp (disch:=omega) only[ae],p1.aa Ex2.aa,by simp⟩ ?_
 clear p1 kg Ex2
 rintro m fr hh ⟨i,a,s,b',t,him,hE,hn,hg,hg5,hp,f1,f4,f5,f9,f10,f11⟩
 simp -dsimp (disch:=omega) only[wpS,f10,f11]
 refine au ?_ ?_<;>intro hc<;>simp only[decide_eq_true_eq,decide_eq_false_iff_not] at hc
 ·have hi:i<N:=by omega
  simp -dsimp (disch:=omega) only[wpS,wpT,zE,f9,f11,hv.idx hi,hv.ldR hE hi]
  have X0:=Ext.refl hh
  obtain⟨_,_,L1⟩:=pl4 hg5
  have hnn:=hE.n
  refine drawn [(0,[4])] (by kernel_rfl) (by kernel_rfl) rfl ?_
  simp -dsimp (disch:=omega) only[wpS,wpT,zE,zL,zA,fO,f1,f5,aj hg5,fF]
  refine call (hF hh i hE hi) ?_
  rintro r2 h2 ⟨X2,p2⟩
  have m2:=X2.n
  simp -dsimp (disch:=omega) only[wpS,zE]
  refine call (iM (hp.aa X2.aa) p2 (hQ i (by omega)) (hk i hi).qb (by omega)) ?_
  rintro r3 h3 ⟨hE3,p3⟩
  have m3:=hE3.n
  have X3:=X2.trans hE3
  have eT:rs i g+g i=rs (i+1) g:=rfl
  rw[eT] at p3
  obtain⟨a4,s4,b4,t4,rfl,_,_,_,o1,_,o2,o3,o4⟩:=p3.parts
  have k5:=X3.kept (by omega) hg5
  have kz:=X3.kept (by omega) hg
  simp -dsimp (disch:=omega) only[wpS,wpT,zE,zL,zA,df,f5,k5,o1,o2,o3,o4]
  refine⟨ad rfl rfl rfl rfl (aW (H0:=hh) (b:=2*h1.n) (o:=0) f5 (by omega) X0 (by assumption) L1),?_⟩
  simp -dsimp (disch:=omega) only[wpS,wpT,zE,zA,f11]
  refine⟨m - 1,by omega,i+1,a4,s4,b4,t4,by omega,(hE.trans X3).put (by omega) _,by simp only[aM];omega,by simp (disch:=omega) only[ak];exact kz,ae _ _ rfl,p3.aa ((aK.refl _).put k5 _),by simp[f1,f4,f5,f9,f10]⟩
 ·obtain rfl:i=N:=by omega
  obtain⟨_,_,_,_,hhe,_,_,_,o1,_,o2,o3,o4⟩:=hp.parts
  cases hhe
  simp -dsimp (disch:=omega) only[wpS,wpT,zE,zL,zA,df,fO,f4,f5,aj hg5,hg,fF,o1,o2,o3,o4]
  exact⟨hE.put (Nat.le_refl _) _,hp.aa ((aK.refl _).put hg _)⟩
theorem Ui {v:Value} {ws:List Nat} (hv:ni h v ws) (hl:ws.length≤60) (hF : ∀h1 p,Ext h h1→p∈ws→WV prog F [wdV p] h1 fun r h2=>Ext h1 h2∧bt h2 r (cK p)) :
  WV prog (.func (.func 176) #[] #[]) [v,F] h fun r h'=>Ext h h'∧bt h' r (rs ws.length fun i=>cK (ws.getD i 0)):=by
 obtain⟨g,hg0⟩:=aT (fun i=>cK (ws.getD i 0))
 rw[←hg0]
 have gp : ∀i,i<ws.length → ∃p,ws[i]?=some p∧g i=cK p:=fun i hi=>⟨_,List.getElem?_eq_getElem hi,by rw[hg0];simp only[List.getD_eq_getElem?_getD,List.getElem?_eq_getElem hi];rfl⟩
 have hk : ∀i,i<ws.length→OvL 1 512 (g i):=fun i hi=>by
  obtain⟨p,h1,h2⟩:=gp i hi
  rw[h2]
  exact UO (lI (hv.2.2 p (List.mem_of_getElem? h1))).abs
 have hQ : ∀i,i≤ws.length→QB (512+i) (rs i g):=fun i hi=>(OvL.rs (by omega) (UU _) fun j hj=>hk j (by omega)).qb
 have len:=hv.1.len (P:=prog) Em
 refine enter (nt:=22) (rs:=[.cell 4 137]) Proofs.Tryz.func176 rfl rfl rfl (by simp) ?_
 simp -dsimp (disch:=omega) only[wpS,zA,dW]
 have E1:Ext h (h.new (.cells ZR 0 none)):=(Ext.refl h).new _
 have g1:(h.new (.cells ZR 0 none)).ext.get h.n=some (.cells ZR 0 none):=by simp (disch:=omega) only[ah]
 refine call (fe 0 ⟨by omega,by omega⟩) ?_
 rintro z h1 ⟨X1,p1⟩
 have m1:=X1.n
 simp only[aH] at m1
 obtain⟨a3,s3,b3,t3,rfl,_,_,d1,o1,d2,o2,o3,o4⟩:=p1.parts
 have kg:=X1.kept (by simp) g1
 simp -dsimp (disch:=omega) only[wpS,wpT,zE,zL,zA,dW,df,o1,o2,o3,o4,len]
 have Ex2:Ext h1 ((h1.new (.cells ZR 0 none)).put h1.n (.cells [a3,s3,b3,t3] 0 none)):=((Ext.refl h1).new _).put (Nat.le_refl _) _
 refine loop (fun m fr hh => ∃(i:Nat) (a s b' t:Value),i+m=ws.length∧Ext h hh∧h1.n<hh.n∧hh.ext.get h.n=some (.cells ZR 0 none)∧hh.ext.get h1.n=some (.cells [a,s,b',t] 0 none)∧bt hh (.agg #[a,s,b',t]) (rs i g) ∧
   ab fr 1=some F∧ab fr 4=some (ptr (2*h.n) 0)∧ab fr 5=some (ptr (2*h1.n) 0)∧ab fr 9=some v∧ab fr 10=some (KN ws.length)∧ab fr 11=some (KN i)) ws.length
  ⟨0,a3,s3,b3,t3,by omega,(E1.trans X1).trans Ex2,by simp,by simp (disch:=omega) only[aq,ak];exact kg,by simp (disch:=omega) only[ae],p1.aa Ex2.aa,by simp⟩ ?_
 clear p1 kg Ex2
 rintro m fr hh ⟨i,a,s,b',t,him,hE,hn,hg,hg5,hp,f1,f4,f5,f9,f10,f11⟩
 simp -dsimp (disch:=omega) only[wpS,f10,f11]
 refine au ?_ ?_<;>intro hc<;>simp only[decide_eq_true_eq,decide_eq_false_iff_not] at hc
 ·have hi:i<ws.length:=by omega
  obtain⟨p,hpi,gpi⟩:=gp i hi
  have wp:=hv.2.2 p (List.mem_of_getElem? hpi)
  simp -dsimp (disch:=omega) only[wpS,wpT,zE,zL,zA,nW,lh,f9,f11,hv.1.idx Ps hi,hv.ld hE.aa hpi]
  obtain⟨H0,hH0⟩:=aT ((hh.new (.cells [ZW,ZW,ZW,ZW,ZW,ZW,ZW,ZW] 0 none)).put hh.n (.cells (wdC p) 0 none))
  have e0:Ext hh H0:=by rw[hH0];exact((Ext.refl hh).new _).put (Nat.le_refl _) _
  have n0:H0.n=hh.n+1:=by rw[hH0];rfl
  have gx:H0.ext.get hh.n=some (.cells (wdC p) 0 none):=by rw[hH0];simp (disch:=omega) only[ae]
  have gs:=e0.kept hn hg5
  have gz:=e0.kept (by have:=hE.n;omega) hg
  simp -dsimp (disch:=omega) only[wpS,wpT,cM,aA,cm,eK]
  rw[←hH0]
  clear hH0
  have X0:=Ext.refl H0
  obtain⟨_,_,L1⟩:=pl4 gs
  have L2:=MH gx
  have hnn:=hE.n
  refine drawn [(0,[4])] (by kernel_rfl) (by kernel_rfl) rfl ?_
  simp -dsimp (disch:=omega) only[wpS,wpT,zE,zL,zA,fO,f1,f5,aj gs,L2,fF]
  refine call (hF H0 p (hE.trans e0) (List.mem_of_getElem? hpi)) ?_
  rintro r2 h2 ⟨X2,p2⟩
  rw[←gpi] at p2
  have m2:=X2.n
  simp -dsimp (disch:=omega) only[wpS,zE]
  refine call (iM (hp.aa (e0.trans X2).aa) p2 (hQ i (by omega)) (hk i hi).qb (by omega)) ?_
  rintro r3 h3 ⟨hE3,p3⟩
  have m3:=hE3.n
  have X3:=X2.trans hE3
  have eT:rs i g+g i=rs (i+1) g:=rfl
  rw[eT] at p3
  obtain⟨a4,s4,b4,t4,rfl,_,_,_,o1,_,o2,o3,o4⟩:=p3.parts
  have k5:=X3.kept (by omega) gs
  have kz:=X3.kept (by omega) gz
  simp -dsimp (disch:=omega) only[wpS,wpT,zE,zL,zA,df,f5,k5,o1,o2,o3,o4]
  refine⟨ad rfl rfl rfl rfl (aW (H0:=H0) (b:=2*h1.n) (o:=0) f5 (by omega) X0 (by assumption) L1),?_⟩
  simp -dsimp (disch:=omega) only[wpS,wpT,zE,zA,f11]
  refine⟨m - 1,by omega,i+1,a4,s4,b4,t4,by omega,((hE.trans e0).trans X3).put (by omega) _,by simp only[aM];omega,by simp (disch:=omega) only[ak];exact kz,ae _ _ rfl,p3.aa ((aK.refl _).put k5 _),by simp[f1,f4,f5,f9,f10]⟩
 ·obtain rfl:i=ws.length:=by omega
  obtain⟨_,_,_,_,hhe,_,_,_,o1,_,o2,o3,o4⟩:=hp.parts
  cases hhe
  simp -dsimp (disch:=omega) only[wpS,wpT,zE,zL,zA,df,fO,f4,f5,aj hg5,hg,fF,o1,o2,o3,o4]
  exact⟨hE.put (Nat.le_refl _) _,hp.aa ((aK.refl _).put hg _)⟩
end Go.Id
namespace Go.Id
open Go
open Nat renaming reduceAdd→zA,reduceEqDiff→zE,reduceLeDiff→zL
set_option maxHeartbeats 16000000
def qo (N M:Nat) (q:Nat→Nat→Rat):List Rat:=(List.range M).map fun m=>rs N fun j=>q j m
theorem gf (N M:Nat) (q:Nat→Nat→Rat):(qo N M q).length=M:=by simp[qo]
variable {M N m:Nat}
theorem D7 (q:Nat→Nat→Rat) (h:m<M):(qo N M q)[m]?=some (rs N fun j=>q j m):=by
 unfold qo
 rw[List.getElem?_map,List.getElem?_range h];rfl
variable {h:IH}
theorem Jd {k j:Nat} {g:Nat→Rat} (t:lC h j M g) (gk:h.ext.get k=some (.cells [KN m] 0 none)) (hkn:k<h.n) (hm:m<M) :
  WV Proofs.Tryz.prog (.func (.func 231) #[] #[ptr (2*k) 0]) [mkV j M] h fun r h'=>Ext h h'∧bt h' r (g m):=by
 obtain⟨a,s,b,u,hld,hp⟩:=t.ldK hm
 obtain⟨_,_,_,_,hhe,_,_,_,o1,_,o2,o3,o4⟩:=hp.parts
 cases hhe
 have E1:Ext h (h.new (.cells ZR 0 none)):=(Ext.refl h).new _
 have g1:(h.new (.cells ZR 0 none)).ext.get h.n=some (.cells ZR 0 none):=by simp (disch:=omega) only[ah]
 have gk1:=E1.kept hkn gk
 refine enter (nt:=8) (rs:=[.cell 3 137]) Proofs.Tryz.func231 rfl rfl rfl (by simp) ?_
 simp -dsimp (disch:=omega) only[wpS,wpT,zE,zL,zA,dW,ld3,fO,df,aj gk1,g1,t.idx hm,hld _ E1,o1,o2,o3,o4,fF]
 exact⟨E1.put (Nat.le_refl _) _,(hp.aa E1.aa).aa ((aK.refl _).put g1 _)⟩
theorem Cn {n0 n1 b L x:Nat} {r:Nat→Nat} {q:Nat→Nat→Rat} (t:Tab h n0 n1 b N M r q) (hq : ∀j m,j<N→m<M→OvL L x (q j m)) (hL:0<L) (hx:L≤2 ^ x) (hb:2*x+N+1<16000000) (hM:M≤1000) :
  WV Proofs.Tryz.prog (.func (.func 179) #[] #[]) [mkV b N] h fun v h'=>Ext h h'∧oz bt h' v (qo N M q):=by
 have hN:0<N:=t.ob.some_
 refine enter (nt:=20) (rs:=[.tmp 2]) Proofs.Tryz.func179 rfl rfl rfl (by simp) ?_
 have ix0:indexAddr Proofs.Tryz.prog 147 (mkV b N) (.int .i64 0)=some (aP (mkV b N) 0):=t.idx hN
 simp -dsimp (disch:=omega) only[wpS,zE,ix0,t.ldR (Ext.refl h) hN,(t.row 0 hN).len]
 refine loop (fun m fr h1 => ∃(i:Nat) (out:Value) (cs:List Value),i+m=M∧Ext h h1∧Acc h1 h.n 4 out ((qo N M q).take i).length cs∧ku bt h1 ((qo N M q).take i) cs∧ab fr 0=some (mkV b N)∧ab fr 3=some out∧ab fr 8=some (KN M)∧ab fr 9=some (KN i)) M
  ⟨0,.slice none 0 0,[],by omega,Ext.refl _,Acc.nil h _ (by omega),by simp[ku]⟩ ?_
 rintro m fr h1 ⟨i,out,cs,him,hE,hA,hC,f0,f3,f8,f9⟩
 simp -dsimp (disch:=omega) only[wpS,f8,f9]
 refine au ?_ ?_<;>intro hc<;>simp only[decide_eq_true_eq,decide_eq_false_iff_not] at hc
 ·have hi:i<M:=by omega
  simp -dsimp (disch:=omega) only[wpS,wpT,zE,zL,zc3,st3,f0,f3,f9]
  obtain⟨H0,hH0⟩:=aT ((h1.new (.cells [.int .i64 0] 0 none)).put h1.n (.cells [KN i] 0 none))
  have e0:Ext h1 H0:=by rw[hH0];exact((Ext.refl h1).new _).put (Nat.le_refl _) _
  have n0':H0.n=h1.n+1:=by rw[hH0];rfl
  have gk:H0.ext.get h1.n=some (.cells [KN i] 0 none):=by rw[hH0];simp (disch:=omega) only[ae]
  rw[←hH0]
  clear hH0
  have E0:=hE.trans e0
  refine call (Uj (t.ext E0) (fun j=>q j i) (fun H j X hj=>Jd ((t.row j hj).ext (E0.trans X)) (X.kept (by omega) gk) (by have:=X.n;omega) hi) (fun j hj=>hq j i hj hi) hL hx hb) ?_
  rintro r2 h2 ⟨X2,p2⟩
  have X02:=e0.trans X2
  have n1':=hE.n
  have n2':=X02.n
  obtain⟨a4,s4,b4,t4,rfl,_,_,_,o1,_,o2,o3,o4⟩:=p2.parts
  have hlen:((qo N M q).take i).length=i:=by rw[List.length_take,gf];omega
  obtain⟨ef,h5,hap,hA5,hC5,hG5,hE5⟩:=Q6 Xp (by omega) hI (hA.ext X02) (hC.aa hI X02.aa) p2 (by simp[o1,o2,o3,o4]) (by omega) (by omega) (hE.trans X02) (Nat.le_refl _)
  rw[←eV (D7 q hi)] at hA5 hC5
  simp -dsimp (disch:=omega) only[wpS,wpT,zE,zL,zA,Tt,DL,f9,hap]
  exact⟨m - 1,by omega,i+1,ef,_,by omega,hE5,hA5,hC5,by simp[f0,f8]⟩
 ·obtain rfl:i=M:=by omega
  rw[List.take_of_length_le (by rw[gf];omega)] at hA hC
  simp -dsimp (disch:=omega) only[wpS,wpT,zE,f3]
  exact⟨hE,cs,hA.sl,hC,by rw[gf];omega⟩
open Go.Proofs.Tryz (prog)
variable {h' h:IH}{m:Nat}
theorem Mem.split {o:bI} (x:Mem m h h') (g:h'.ext.get m=some o):Ext (h.put m o) h' :=
 ⟨x.n,x.base,fun k hk=>by
  rw[iT]
  split
  ·rename_i e;rw[e];exact g
  ·rename_i e;exact x.get k hk e,x.bP⟩
def wJ (H:IH) (N S k:Nat) (p:Nat→Nat→Rat) (hit:Nat→Bool) (s:Nat) (vs:List Value):Prop:=∀i,i<k → ∃w,vs[i]?=some w∧oz bt H w (qo N (S+1) (jg N p hit s i))
def Xt (H:IH) (v:Value) (N S:Nat) (p:Nat→Nat→Rat) (hit:Nat→Bool) (s:Nat):Prop:=∃vs,bH H 1 v (S+1) vs∧wJ H N S (S+1) p hit s vs
variable {H:IH}{N:Nat}{hit:Nat→Bool}{p:Nat→Nat→Rat}{k s:Nat}{vs:List Value}{S:Nat}
theorem wJ.aa {H':IH} (c:wJ H N S k p hit s vs) (K:aK H H'):wJ H' N S k p hit s vs:=fun i hi =>
 let ⟨w,h1,h2⟩:=c i hi
 ⟨w,h1,h2.aa hI K⟩
theorem wJ.snoc (c:wJ H N S k p hit s vs) (hl:vs.length=k) {w:Value} (hw:oz bt H w (qo N (S+1) (jg N p hit s k))):wJ H N S (k+1) p hit s (vs ++ [w]):=fun i hi=>by
 by_cases e:i=k
 ·subst e
  exact⟨w,by rw[←hl];simp,hw⟩
 ·obtain⟨w',h1,h2⟩:=c i (by omega)
  exact⟨w',by rw[List.getElem?_append_left (by omega)];exact h1,h2⟩
variable {D d:Nat}
theorem lO (hN:0<N) (hp : ∀i j,i<N→j<N→OvL D d (p i j)) (k:Nat) (hm:m<S+1):OvL (D ^ k) (k*(d+N)+N) (atQ (qo N (S+1) (jg N p hit s k)) m):=by
 have z:=zk (hit:=hit) (s:=s) hp k hN m
 unfold atQ
 rw[List.getD_eq_getElem?_getD,D7 _ hm]
 exact OvL.rs z.1 z.2.1 fun j hj=>zk hp k hj m
variable {f:Option Nat}
theorem Sq (g:Grow h h') {c:List Value} (hk:k<h.n) (hg:h.ext.get k=some (.cells c 0 f)):h'.ext.get k=some (.cells c 0 f):=by
 rcases g.get k hk with h1|⟨c',e,f1,f2,he,h1,h2⟩
 ·rw[h1];exact hg
 ·rw[hg] at h1
  cases h1
  exact absurd rfl he
theorem nI {t:TypeId} (hT:bh prog t=some false) {e:Nat} {v:Value} (g:h.ext.get k=some (.cells [v] e f)):load prog h t (ptr (2*k) 0)=some v:=by
 rw[cC hT,WM (aj g)];rfl
theorem DD {kv hv:Value} {ll:List (List (Nat×Nat))} 
  (hk:ji h kv ll) (ko:dK ll) (hN:N=ll.length) (hh:bH h 1 hv N (vT N hit)) (hS:S≤20) (hs:s<N) (hp : ∀i j,i<N→j<N→OvL D d (kAt ll i j)) (hd:d≤300000) :
  WV prog (.func (.func 79) #[] #[]) [.agg #[kv,hv],KN s,KN S] h fun v h'=>Ext h h'∧Xt h' v N S (kAt ll) hit s:=by
 obtain⟨c1,c2,hlen⟩:=hk.co
 rw[←hN] at hlen
 have k1:=ko.1
 have k2:=ko.2.1
 have o3:=hh.cells
 have o4:=hh.cok
 have tk0:List.take 1 (List.drop 0 [kv,hv]) = [kv]:=rfl
 refine enter (nt:=39) (rs:=[.tmp 6]) Proofs.Tryz.func79 rfl rfl rfl (by simp) ?_
 obtain⟨H0,hH0,n0,E0,g3,g5⟩:=ev h [kv,hv] [KN S]
 simp -dsimp (disch:=try exact dx) only[wpS,zE,zA,Fw,Fx,Ve,ld3,hlen]
 rw[←hH0]
 clear hH0
 refine call (Gg (M:=S+1) (by omega) (by omega) (by omega) (by omega)) ?_
 rintro _ h1 ⟨X1,b',r',lb',rfl,T⟩
 have m1:=X1.n
 obtain⟨q1,q2⟩:=RJ b' N
 simp -dsimp (disch:=omega) only[wpS,wpT,zE,zL,ZX,Wj,q1,q2]
 obtain⟨H2,hH2⟩:=aT ((h1.new (.cells [.slice none 0 0] 0 none)).put h1.n (.cells [mkV b' N] 0 none))
 have F2:Ext h1 H2:=by rw[hH2];exact((Ext.refl h1).new _).put (Nat.le_refl _) _
 have n2:H2.n=h1.n+1:=by rw[hH2];rfl
 have g7:H2.ext.get h1.n=some (.cells [mkV b' N] 0 none):=by rw[hH2];simp (disch:=omega) only[ae]
 rw[←hH2]
 clear hH2
 have T2:=T.ext F2
 have hX0:=Ext.refl H2
 have rl:=T2.ldR hX0 hs
 have ix:=T2.idx hs
 refine drawn [(0,[6]),(3,[6])] (by kernel_rfl) (by kernel_rfl) rfl ?_
 simp -dsimp (disch:=omega) only[wpS,zE,MI,aj g7,ix,rl]
 refine call (fe 1 ⟨by omega,by omega⟩) ?_
 rintro z h3 ⟨X3,p3⟩
 have T3:=T2.ext X3
 obtain⟨a1,a2,a3,a4,rfl,_,_,d1,o1,d2,o2,o5,o6⟩:=p3.parts
 obtain⟨cs',c,gr,st,T4⟩:=T3.set hs (show 0<S+1 by omega) p3 (by simp[o1,o2,o5,o6])
 rw[Nat.zero_mul] at st
 have iy:indexAddr prog 139 (mkV (r' s) (S+1)) (.int .i64 0)=some (aP (mkV (r' s) (S+1)) 0):=by
  have:=(T3.row s hs).idx (show 0<S+1 by omega)
  rwa [Nat.zero_mul] at this
 simp -dsimp (disch:=omega) only[wpS,zE,iy,st]
 refine⟨aw (ad rfl rfl rfl rfl (ai rfl (nI TI g7) (nI TI (X3.kept (by omega) g7)))) (ad rfl rfl rfl rfl (ai rfl rl (T2.ldR X3 hs))),?_⟩
 have ls:=T.lr s hs
 have n3:=X3.n
 obtain⟨H4,hH4⟩:=aT (h3.put (r' s) (.cells cs' 4 none))
 rw[←hH4] at T4 ⊢
 have g74:H4.ext.get h1.n=some (.cells [mkV b' N] 0 none):=by rw[hH4,ak _ _ (by omega)];exact X3.kept (by omega) g7
 have E4:Ext H0 H4:=by rw[hH4];exact((X1.trans F2).trans X3).put (by omega) _
 have n4:H4.n=h3.n:=by rw[hH4];rfl
 clear hH4 st gr T3 T2 T
 have T5:Tab H4 b' h1.n b' N (S+1) r' (jg N (kAt ll) hit s 0):=T4.congr fun a m _ _=>by rw[jg];rfl
 clear T4
 have cO : ∀k,k≤S → ∀j m,j<N→m<S+1→OvL (D ^ k) (k*(d+N)) (jg N (kAt ll) hit s k j m):=fun k _ j m hj _=>zk hp k hj m
 have kb : ∀k,k≤S→k*(d+N)≤20*(d+N):=fun k hk=>Nat.mul_le_mul_right _ (by omega)
 have z0:=cO 0 (by omega) 0 0 (by omega) (by omega)
 simp -dsimp (disch:=omega) only[wpS,wpT,zE,zA,MI,aj g74]
 refine call (Cn T5 (cO 0 (by omega)) z0.1 z0.2.1 (by have:=kb 0 (by omega);omega) (by omega)) ?_
 rintro w0 h5 ⟨X5,e0⟩
 have n5:=X5.n
 obtain⟨_,sw,_,_⟩:=id e0
 have w1:=sw.cells
 have w2:=sw.cok
 have g55:=(E4.trans X5).kept (by omega) g5
 simp -dsimp (disch:=omega) only[wpS,wpT,zE,zL,zA,ld3,Xh,w1,aj g55]
 obtain⟨H6,hH6⟩:=aT (h5.new (.cells [w0] 1 none))
 have F6:Ext h5 H6:=by rw[hH6];exact(Ext.refl h5).new _
 have n6:H6.n=h5.n+1:=by rw[hH6];rfl
 have G6:Gro H6 H0.n 1 (.slice (some ⟨2*h5.n,0,none⟩) 1 3) 1 [w0]:=by
  rw[hH6]
  exact(VB (h:=h5) (sz:=1) (m:=1) (by omega) rfl (by omega)).from (by have:=E4.n;omega)
 rw[←hH6]
 clear hH6
 have E6:=E4.trans (X5.trans F6)
 have g76:=(X5.trans F6).kept (by omega) g74
 have T6:=T5.ext (X5.trans F6)
 have V6:wJ H6 N S 1 (kAt ll) hit s [w0]:=fun i hi=>⟨w0,by
  obtain rfl:i=0:=by omega
  rfl,by
  obtain rfl:i=0:=by omega
  exact e0.aa hI F6.aa⟩
 refine loop (fun m fr H => ∃(k:Nat) (out v:Value) (vs:List Value) (rv:Nat→Value),k+m=S∧Ext H0 H∧h1.n<H.n∧H.ext.get h1.n=some (.cells [v] 0 none)∧tv H v N (S+1) rv (jg N (kAt ll) hit s k)∧Gro H H0.n 1 out (k+1) vs∧wJ H N S (k+1) (kAt ll) hit s vs ∧
   ab fr 5=some (ptr (2*(h.n+1)) 0)∧ab fr 7=some (ptr (2*h1.n) 0)∧ab fr 8=some out∧ab fr 9=some (.func (.func 180) #[] #[ptr (2*h.n) 0,ptr (2*(h.n+1)) 0,ptr (2*h1.n) 0])∧ab fr 27=some (KN S)∧ab fr 28=some (KN k)) S
  ⟨0,_,_,[w0],_,by omega,E6,by omega,g76,T6.toR (by omega),G6,V6,by simp⟩ ?_
 clear E6 g76 T6 V6 G6 F6 T5 E4 g74 e0 sw X5 ls
 rintro m fr H ⟨k,out,v,vs,rv,hkm,E,lH,g7',T,G,V,f5,f7,f8,f9,f27,f28⟩
 simp -dsimp (disch:=omega) only[wpS,f27,f28]
 refine au ?_ ?_<;>intro hc<;>simp only[decide_eq_true_eq,decide_eq_false_iff_not] at hc
 ·have hkS:k<S:=by omega
  have K:=(E0.trans E).aa
  have g3':=E.kept (by omega) g3
  have g5':=E.kept (by omega) g5
  have nH:=E.n
  have kb1:=kb k (by omega)
  have kb2:=kb (k+1) (by omega)
  simp -dsimp (disch:=omega) only[wpS,wpT,zE,f9]
  refine call (Td (hk.aa K) ko hN (hh.aa K) hS g3' g5' g7' (by omega) (by omega) (by omega) T (fun i m hi=>zk hp k hi m) hp (fun i hi=>Ti k hkS) (by omega)) ?_
  rintro _ h7 ⟨M7,b2,r2,n02,l2,g77,T7⟩
  have T7:Tab h7 n02 h7.n b2 N (S+1) r2 (jg N (kAt ll) hit s (k+1)):=T7.congr fun a m _ _=>Yn a m fun i m _=>rfl
  have S7:=M7.split g77
  have E7:Ext H0 h7:=(E.put (by omega) _).trans S7
  have G7:=(G.put g7' (.cells [mkV b2 N] 0 none)).ext S7
  have V7:=(V.aa ((aK.refl H).put g7' (.cells [mkV b2 N] 0 none))).aa S7.aa
  have n7:=M7.n
  have z1:=cO (k+1) (by omega) 0 0 (by omega) (by omega)
  simp -dsimp (disch:=omega) only[wpS,zE,MI,f7,f8,aj g77]
  refine call (Cn T7 (cO (k+1) (by omega)) z1.1 z1.2.1 (by omega) (by omega)) ?_
  rintro w h8 ⟨X8,e8⟩
  have n8:=X8.n
  obtain⟨_,sw,_,_⟩:=id e8
  have w1:=sw.cells
  have w2:=sw.cok
  obtain⟨ef,h9,hap,A9,G9,E9⟩:=(G7.ext X8).tq (P:=prog) (t:=147) ZcK (m:=1) (new:=[w]) (by omega) rfl (by simp[w2]) (by omega) (by omega) (E7.trans X8) (Nat.le_refl _)
  simp -dsimp (disch:=omega) only[wpS,wpT,zE,zL,zA,Xh,PQ,f28,w1,hap]
  have g79:h9.ext.get h1.n=some (.cells [mkV b2 N] 0 none):=Sq G9 (by omega) (X8.kept (by omega) g77)
  exact⟨m - 1,by omega,k+1,ef,_,vs ++ [w],_,by omega,E9,by have:=G9.n;omega,g79,(T7.toR (by omega)).aa (X8.aa.trans G9.aa),.inl A9,((V7.aa X8.aa).snoc (by have:=G7.sl.2.1;omega) e8).aa G9.aa,by simp[f5,f7,f9,f27]⟩
 ·obtain rfl:k=S:=by omega
  simp -dsimp (disch:=omega) only[wpS,wpT,zE,f8]
  exact⟨E0.trans E,vs,G.sl,V⟩
end Go.Id
