/-
  Contracts: reference 33: Filter.
-/
import Derived.Test.YtnnmjocmapilaaaGreatOutlierValidBl
set_option linter.unusedVariables false
set_option linter.unusedSimpArgs false
set_option linter.defProp false
set_option linter.deprecated false
namespace Go.Id
open Go
open Go.Proofs.Tryz (prog)
open Nat renaming reduceAdd→zA,reduceEqDiff→zE,reduceLeDiff→zL
set_option maxHeartbeats 16000000
theorem ba.qO {h h':IH} {v:Value} {z:Int} (p:ba h v z) (e:ru 1 h h'):ba h' v z:=by
 obtain⟨s,h1,ds,d1,d2⟩:=p
 exact⟨s,h1,ds,⟨d1.1.qO e,d1.2⟩,d2⟩
theorem fm.qO {h h':IH} {v:Value} {q:Rat} (p:fm h v q) (e:ru 1 h h'):fm h' v q:=by
 obtain⟨a,s,b,t,h1,h2,h3⟩:=p
 exact⟨a,s,b,t,h1,h2.qO e,h3.qO e⟩
def pQ (g:Nat→Rat) (i j:Nat):Rat:=if i=j then 0 else g j
def AY (g:Nat→Rat) (i:Nat):Nat→Rat
 | 0=>0
 | j+1=>AY g i j+pQ g i j
theorem KP (g:Nat→Rat) (i:Nat) : ∀n,1 - AY g i n=nw g i n
 | 0=>by rw[AY,nw];grind
 | n+1=>by
  have ih:=KP g i n
  rw[AY,nw,pQ]
  by_cases h:i=n
  ·rw[if_pos h,if_pos h.symm,←ih];grind
  ·rw[if_neg h,if_neg (fun e=>h e.symm),←ih];grind
theorem De {g:Nat→Rat} {i:Nat} {k:Nat} : ∀{n:Nat},(∀j,j<n→QB k (g j))→QB (n*(k+1)) (AY g i n)
 | 0,_=>⟨by rw[AY];exact Nat.zero_le _,by rw[AY];exact Nat.one_le_two_pow⟩
 | n+1,h=>by
  have ih:=De (i:=i) (n:=n) fun j hj=>h j (by omega)
  have e:(n+1)*(k+1)=n*(k+1)+k+1:=by rw[Nat.add_mul];omega
  rw[AY,e]
  have hp:QB k (pQ g i n):=by
   unfold pQ
   split
   ·exact QB.zero.mono (by omega)
   ·exact h n (by omega)
  exact ih.add hp
structure FR (hh H:IH) (fr:Fr) (v v6 out rw:Value) (i d e b10:Nat) (g:Nat→Rat) (cs:List Value):Prop where
 E:Ext hh H
 acc:mz H hh.n 4 rw e cs
 els:jR fm H ((List.range e).map (pQ g i)) cs
 b1:hh.n≤b10
 b2:b10<H.n
 box : ∃a s b u,H.ext.get b10=some (.cells [a,s,b,u] 0 none)∧fm H (.agg #[a,s,b,u]) (AY g i d)
 f0:ab fr 0=some v
 f6:ab fr 6=some v6
 f7:ab fr 7=some out
 f8:ab fr 8=some (KN i)
 f9:ab fr 9=some rw
 f10:ab fr 10=some (ptr (2*b10) 0)
section
variable {hh H H':IH} {fr gr:Fr} {v v6 out rw:Value} {i d e b10:Nat} {g:Nat→Rat} {cs:List Value}
theorem FR.frm (s:FR hh H fr v v6 out rw i d e b10 g cs) (f0:ab gr 0=some v) (f6:ab gr 6=some v6) (f7:ab gr 7=some out) (f8:ab gr 8=some (KN i)) (f9:ab gr 9=some rw) (f10:ab gr 10=some (ptr (2*b10) 0)):FR hh H gr v v6 out rw i d e b10 g cs :=
 ⟨s.E,s.acc,s.els,s.b1,s.b2,s.box,f0,f6,f7,f8,f9,f10⟩
theorem FR.ext (s:FR hh H fr v v6 out rw i d e b10 g cs) (X:Ext H H'):FR hh H' fr v v6 out rw i d e b10 g cs:=by
 obtain⟨a,s',b,u,h1,h2⟩:=s.box
 exact⟨s.E.trans X,s.acc.ext X,s.els.aa nC X.aa,s.b1,Nat.lt_of_lt_of_le s.b2 X.n,⟨a,s',b,u,X.kept s.b2 h1,h2.aa X.aa⟩,s.f0,s.f6,s.f7,s.f8,s.f9,s.f10⟩
theorem FR.Yz (s:FR hh H fr v v6 out rw i d e b10 g cs) {b:Nat} {c:List Value} {f:Option Nat} (hb:H.ext.get b=some (.cells c 0 f)) (h1:hh.n≤b) (h2:b≠b10) (o:bz):FR hh (H.put b o) fr v v6 out rw i d e b10 g cs:=by
 obtain⟨a,s',b',u,h3,h4⟩:=s.box
 have K:=(aJ.refl H).put hb o
 exact⟨s.E.put h1 _,s.acc.put hb o,s.els.aa nC K,s.b1,s.b2,⟨a,s',b',u,by rw[ak _ _ (fun h=>h2 h.symm)];exact h3,h4.aa K⟩,s.f0,s.f6,s.f7,s.f8,s.f9,s.f10⟩
theorem FR.sum (s:FR hh H fr v v6 out rw i d e b10 g cs) {z1 z2 z3 z4:Value} (p:fm H (.agg #[z1,z2,z3,z4]) (AY g i (d+1))):FR hh (H.put b10 (.cells [z1,z2,z3,z4] 0 none)) fr v v6 out rw i (d+1) e b10 g cs:=by
 obtain⟨a,s',b',u,h3,h4⟩:=s.box
 have K:=(aJ.refl H).put h3 (.cells [z1,z2,z3,z4] 0 none)
 exact⟨s.E.put s.b1 _,s.acc.put h3 _,s.els.aa nC K,s.b1,s.b2,⟨_,_,_,_,ae _ _ rfl,p.aa K⟩,s.f0,s.f6,s.f7,s.f8,s.f9,s.f10⟩
end
open Classical in
theorem FH {h:IH} {v w:Value} {ll:List (List (Nat×Nat))} {t:List Nat} (hv:jt h v ll) (hw:pE h w t) :
  WV prog (.func (.func 71) #[] #[]) [v,w] h fun r h'=>Ext h h' ∧ ∃out,r=.tuple #[out,KI (mX ll t)]∧(mX ll t=0→jt h' out (ij ll t))∧(mX ll t≠0→out=.slice none 0 0):=by
 obtain⟨_,_,hlen⟩:=hv.co
 have hlw:=hw.1.len (P:=prog) Dh
 have htb:=hw.2.1
 refine enter (nt:=108) (rs:=[.tmp 4,.tmp 5]) Proofs.Tryz.func71 rfl rfl rfl (by simp) ?_
 simp -dsimp (disch:=omega) only[wpS,zE,zA]
 refine call (NL hv) ?_
 rintro _ h1 ⟨X1,rfl⟩
 by_cases hk:df ll
 case neg =>
  have e:mX ll t=330:=by rw[mX,if_pos hk]
  rw[e,decide_eq_false hk]
  simp -dsimp (disch:=omega) only[wpS,wpT,zE]
  exact⟨X1,_,rfl,fun h=>absurd h (by decide),fun _=>rfl⟩
 rw[decide_eq_true hk]
 have hk1:=hk.1
 have hk2:=hk.2.1
 obtain⟨n,hn⟩:=aP (ll.length)
 rw[←hn] at hk1 hk2 hlen
 by_cases ht:t.length=n
 case neg =>
  have e:mX ll t=2:=by rw[mX,if_neg (fun h=>h hk),if_pos (.inl (by omega))]
  have d:(((t.length:Nat):Int) != ((n:Nat):Int))=true:=by simpa using fun h=>ht (by omega)
  rw[e]
  simp -dsimp (disch:=omega) only[wpS,wpT,zE,hlen,hlw,d]
  exact⟨X1,_,rfl,fun h=>absurd h (by decide),fun _=>rfl⟩
 have d:(((t.length:Nat):Int) != ((n:Nat):Int))=false:=by simp[ht]
 simp -dsimp (disch:=omega) only[wpS,wpT,zE,hlen,hlw,d]
 refine call (NH (least:=1) (hw.aa X1.aa) ⟨by omega,by omega⟩) ?_
 rintro _ h2 ⟨X2,rfl⟩
 by_cases tL : ∃p∈t,wdI p<1
 case pos =>
  have e:mX ll t=2:=by rw[mX,if_neg (fun h=>h hk),if_pos (.inr tL)]
  rw[decide_eq_true tL,e]
  simp -dsimp (disch:=omega) only[wpS,zE]
  exact⟨X1.trans X2,_,rfl,fun h=>absurd h (by decide),fun _=>rfl⟩
 rw[decide_eq_false tL]
 have e:mX ll t=(open Classical in if tO ll t then 0 else 6):=by rw[mX,if_neg (fun h=>h hk),if_neg (fun h=>h.elim (fun h=>h (by omega)) tL)]
 simp -dsimp (disch:=omega) only[wpS,zE]
 refine call (IZ (hw.aa (X1.trans X2).aa) (by omega)) ?_
 rintro v6 h3 ⟨X3,sv7⟩
 have X03:=(X1.trans X2).trans X3
 have pt : ∀j,j<n→t.getD j 0<W8∧1≤wdI (t.getD j 0)∧(t.map cA)[j]?=some (cA (t.getD j 0)):=fun j hj=>by
  have hjt:j<t.length:=by omega
  have hm:t.getD j 0∈t:=by rw[List.getD_eq_getElem?_getD,List.getElem?_eq_getElem hjt];exact List.getElem_mem hjt
  refine⟨hw.2.2 _ hm,Classical.byContradiction fun hc=>tL ⟨_,hm,by omega⟩,?_⟩
  rw[List.getElem?_map,List.getD_eq_getElem?_getD,List.getElem?_eq_getElem hjt];rfl
 have hv3:=hv.aa X03.aa
 simp -dsimp (disch:=omega) only[wpS,zE]
 refine loop (fun m fr hh => ∃(i:Nat) (out:Value) (vs:List Value),i+m=n∧vs.length=i∧Ext h3 hh∧Acc hh h3.n 1 out i vs∧(∀k,k<i → ∃w,vs[k]?=some w∧iT hh w ((dK ll t k).map shq))∧(∀k,k<i → ∀q∈dK ll t k,QW q)∧ab fr 0=some v∧ab fr 6=some v6∧ab fr 7=some out∧ab fr 8=some (KN i)) n
  ⟨0,.slice none 0 0,[],by omega,rfl,Ext.refl _,Acc.nil _ _ (by omega),fun k hk=>by omega,fun k hk=>by omega,by simp⟩ ?_
 rintro m fr hh ⟨i,out,vs,him,hvl,hE,hA,hR,hQ,f0,f6,f7,f8⟩
 have nE:=hE.n
 simp -dsimp (disch:=omega) only[wpS,zE,f0,f8,hlen]
 refine aq ?_ ?_<;>intro hc<;>simp only[decide_eq_true_eq,decide_eq_false_iff_not] at hc
 ·have hi:i<n:=by omega
  have gq : ∀k,k<n→QB 1536 (goQ ll t i k):=fun k hk'=>by
   obtain⟨_,a,b1,_,b2,b3,_,b4⟩:=eX hk (i:=i) (j:=k) (by omega) (by omega)
   obtain⟨_,c,b5,_,b6,b7,_,b8⟩:=eX hk (i:=k) (j:=i) (by omega) (by omega)
   have w1:=(hv.nc b1).choose_spec.2.1.2.2 a (List.mem_of_getElem? b2)
   have w2:=(hv.nc b5).choose_spec.2.1.2.2 c (List.mem_of_getElem? b6)
   exact Xc (by rw[b4];exact jm w1.1 w1.2 b3) (by rw[b8];exact jm w2.1 w2.2 b7) (pt k hk').1 (pt i hi).1 (pt i hi).2.1
  simp -dsimp (disch:=omega) only[wpS,wpT]
  refine call zY ?_
  rintro r4 h4 ⟨X4,p4⟩
  have m4:=X4.n
  obtain⟨a3,s3,b3,t3,rfl,_,_,d1,o1,d2,o2,o3,o4⟩:=p4.parts
  simp -dsimp (disch:=omega) only[wpS,wpT,zE,zL,zA,ku,iW,o1,o2,o3,o4]
  have E5:Ext h4 ((h4.new (.cells ZR 0 none)).put h4.n (.cells [a3,s3,b3,t3] 0 none)):=((Ext.refl h4).new _).put (Nat.le_refl _) _
  refine loop (fun m2 fr H => ∃(j:Nat) (rw:Value) (cs:List Value),j+m2=n∧FR hh H fr v v6 out rw i j j h4.n (goQ ll t i) cs∧ab fr 11=some (KN j)) n
   ⟨0,.slice none 0 0,[],by omega,⟨X4.trans E5,mz.nil _ _ (by omega),rfl,by omega,by simp,⟨a3,s3,b3,t3,by simp (disch:=try exact dx) only[ae],p4.aa E5.aa⟩,by simp[f0],by simp[f6],by simp[f7],by simp[f8],by simp,by simp⟩,by simp⟩ ?_
  clear f0 f6 f7 f8 X4 p4 E5
  rintro m2 fr H ⟨j,rw,cs,hjm,s,f11⟩
  simp -dsimp (disch:=omega) only[wpS,zE,s.f0,f11,hlen]
  refine aq ?_ ?_<;>intro hc2<;>simp only[decide_eq_true_eq,decide_eq_false_iff_not] at hc2
  ·have hj:j<n:=by omega
   obtain⟨ri,p,e1,l1,e2,ok1,nn1,k1⟩:=eX hk (i:=i) (j:=j) (by omega) (by omega)
   obtain⟨rj,q,e3,l3,e4,ok2,nn2,k2⟩:=eX hk (i:=j) (j:=i) (by omega) (by omega)
   have hvh:=hv3.aa hE.aa
   obtain⟨wi,A1,A2,A3⟩:=hvh.nc e1
   obtain⟨wj,B1,B2,B3⟩:=hvh.nc e3
   have Lp:=fun h' (K:aJ hh h')=>A2.ld K e2
   have Lq:=fun h' (K:aJ hh h')=>B2.ld K e4
   have ip:=A2.1.idx x8 (P:=prog) (k:=.i64) (j:=j) (by omega)
   have iq:=B2.1.idx x8 (P:=prog) (k:=.i64) (j:=i) (by omega)
   have wp:=A2.2.2 p (List.mem_of_getElem? e2)
   have wq:=B2.2.2 q (List.mem_of_getElem? e4)
   have K0:=s.E.aa
   simp -dsimp (disch:=omega) only[wpS,wpT]
   refine drawn [(11,[7]),(14,[7])] (by kernel_rfl) (by kernel_rfl) rfl ?_
   simp -dsimp (disch:=omega) only[wpS,zE,s.f0,s.f8,f11,A3,A1 H K0,ip,Lp H K0]
   refine call (zw p.1 p.2 wp.1 wp.2) ?_
   rintro r5 h5 ⟨X5,p5⟩
   have p5:=p5.rat ok1
   rw[←k1] at p5
   have K5:=(s.E.trans X5).aa
   simp -dsimp (disch:=omega) only[wpS,zE,s.f0,s.f8,f11,B3,B1 h5 K5,iq,Lq h5 K5]
   refine call (zw q.1 q.2 wq.1 wq.2) ?_
   rintro r6 h6 ⟨X6,p6⟩
   have p6:=p6.rat ok2
   rw[←k2] at p6
   have X56:=X5.trans X6
   have p5:=p5.aa X6.aa
   obtain⟨x1,x2,x3,x4,rfl,_,_,d1,o1,d2,o2,o3,o4⟩:=p5.parts
   obtain⟨y1,y2,y3,y4,rfl,_,_,d5,o5,d6,o6,o7,o8⟩:=p6.parts
   simp -dsimp (disch:=try exact dx) only[wpS,wpT,zE,zL,zA,ku,iW,o1,o2,o3,o4,o5,o6,o7,o8]
   refine⟨by repeat' first|refine ay ?_ ?_|refine az ?_ ?_|exact ad rfl rfl rfl rfl (ai rfl (B1 _ K5) (B1 _ K0))|exact ad rfl rfl rfl rfl (ai rfl (Lq _ K5) (Lq _ K0)),?_⟩
   obtain⟨H7,hH7⟩:=aP ((((h6.new (.cells ZR 0 none)).new (.cells ZR 0 none)).put h6.n (.cells [x1,x2,x3,x4] 0 none)).put (h6.n+1) (.cells [y1,y2,y3,y4] 0 none))
   have E7:Ext h6 H7:=by rw[hH7];exact((((Ext.refl h6).new _).new _).put (Nat.le_refl _) _).put (Nat.le_succ _) _
   have n7:H7.n=h6.n+2:=by rw[hH7];rfl
   have gx:H7.ext.get h6.n=some (.cells [x1,x2,x3,x4] 0 none):=by rw[hH7];simp (disch:=omega) only[ae,ak]
   have gy:H7.ext.get (h6.n+1)=some (.cells [y1,y2,y3,y4] 0 none):=by rw[hH7];simp (disch:=omega) only[ae]
   rw[←hH7]
   clear hH7
   have s7:=s.ext (X56.trans E7)
   have p5:=p5.aa E7.aa
   have p6:=p6.aa E7.aa
   have sv:=sv7.aa nC hE.aa
   have sv0 : ∃cs,bJ hh 4 v6 (t.map cA).length cs:=⟨_,sv.choose_spec.1⟩
   obtain⟨cst,svt⟩:=sv0
   rw[List.length_map] at svt
   obtain⟨u1,u2,u3,u4,Lu,pu⟩:=sv.nc nC (pt j hj).2.2 Hs yZ (P:=prog)
   obtain⟨w1,w2,w3,w4,Lw,pw⟩:=sv.nc nC (pt i hi).2.2 Hs yZ (P:=prog)
   have iu:=svt.idx LF (P:=prog) (k:=.i64) (j:=j) (by omega)
   have iw:=svt.idx LF (P:=prog) (k:=.i64) (j:=i) (by omega)
   have K7:=s7.E.aa
   simp -dsimp (disch:=omega) only[wpS,wpT,zA]
   refine drawn [(9,[5])] (by kernel_rfl) (by kernel_rfl) rfl ?_
   simp -dsimp (disch:=omega) only[wpS,wpT,zE,zL,zA,jx,s.f6,f11,aj gy,fg,iu,Lu H7 K7]
   have qb1:QB 512 (kAt ll i j):=by rw[k1];exact jm wp.1 wp.2 ok1
   have qb2:QB 512 (kAt ll j i):=by rw[k2];exact jm wq.1 wq.2 ok2
   have qb3:=kV (pt j hj).1
   have qb4:=kV (pt i hi).1
   refine call (M4 p6 (pu.aa K7) qb2 qb3 (by omega)) ?_
   rintro r9 h9 ⟨X9,p9⟩
   have K9:=(s7.E.trans X9).aa
   simp -dsimp (disch:=omega) only[wpS,zE,s.f6,s.f8,iw,Lw h9 K9]
   refine call (PZ p9 (pw.aa K9) (qb2.mul qb3) qb4 (by omega) (CU (pt i hi).2.1)) ?_
   rintro r10 h10 ⟨X10,p10⟩
   have X90:=X9.trans X10
   have m9:=X90.n
   have Yv:=(qb2.mul qb3).div qb4 (CU (pt i hi).2.1)
   obtain⟨bk,hbk⟩:=aP (kAt ll j i*cA (t.getD j 0) / cA (t.getD i 0))
   have hgo:goQ ll t i j=if bk<kAt ll i j then bk else kAt ll i j:=by rw[hbk];rfl
   rw[←hbk] at p10 Yv
   clear hbk p9 qb2 qb3 qb4
   obtain⟨z1,z2,z3,z4,rfl,_,_,d9,o9,d10,o10,o11,o12⟩:=p10.parts
   simp -dsimp (disch:=omega) only[wpS,wpT,zE,zL,zA,ku,iW,o9,o10,o11,o12]
   refine⟨by repeat' first|refine ay ?_ ?_|refine az ?_ ?_|exact ad rfl rfl rfl rfl (ai rfl (Lw _ K9) (Lw _ K7)),?_⟩
   obtain⟨H11,Q1⟩:=aP ((h10.new (.cells ZR 0 none)).put h10.n (.cells [z1,z2,z3,z4] 0 none))
   have E11:Ext h10 H11:=by rw[Q1];exact((Ext.refl h10).new _).put (Nat.le_refl _) _
   have n11:H11.n=h10.n+1:=by rw[Q1];rfl
   have gz:H11.ext.get h10.n=some (.cells [z1,z2,z3,z4] 0 none):=by rw[Q1];simp (disch:=omega) only[ae]
   rw[←Q1]
   clear Q1
   have X711:=X90.trans E11
   have ZV:=X711.kept (by omega) gx
   simp -dsimp (disch:=omega) only[wpS,wpT,zE,zL,zA,ku,iW,jx,aj ZV,aj gz,o1,o2,o3,o4,fg]
   obtain⟨H12,Q0⟩:=aP ((H11.new (.cells ZR 0 none)).put H11.n (.cells [x1,x2,x3,x4] 0 none))
   have E12:Ext H11 H12:=by rw[Q0];exact((Ext.refl H11).new _).put (Nat.le_refl _) _
   have n12:H12.n=H11.n+1:=by rw[Q0];rfl
   have g15:H12.ext.get H11.n=some (.cells [x1,x2,x3,x4] 0 none):=by rw[Q0];simp (disch:=omega) only[ae]
   have ZU:=E12.kept (by omega) gz
   rw[←Q0]
   clear Q0
   have X712:=X711.trans E12
   refine call (BJ (p10.aa (E11.trans E12).aa) (p5.aa X712.aa) Yv qb1 (by omega)) ?_
   rintro _ h13 ⟨X13,rfl⟩
   obtain⟨zz,hz,hzc⟩ : ∃z:Int,(if bk<kAt ll i j then (-1:Int) else if bk=kAt ll i j then 0 else 1)=z∧(z<0↔bk<kAt ll i j):=⟨_,rfl,RR _ _⟩
   rw[hz]
   have X713:=X712.trans X13
   have n13:=X13.n
   have s13:=s7.ext X713
   have hb10:=s13.b2
   have hbb:=(s.ext (X56.trans E7)).b2
   have hb4:h4.n<h6.n:=(s.ext X56).b2
   have hh6:hh.n≤h6.n:=(s.ext X56).E.n
   have g13:=X13.kept (by omega) g15
   have ZT:=X13.kept (by omega) ZU
   have Yx:=p5.aa X713.aa
   have Yw:=p10.aa ((E11.trans E12).trans X13).aa
   simp -dsimp (disch:=omega) only[wpS,zE]
   refine fC (fun fr' h'=>(∃a b c d,h'.ext.get H11.n=some (.cells [a,b,c,d] 0 none)∧fm h' (.agg #[a,b,c,d]) (goQ ll t i j))∧H11.n<h'.n∧FR hh h' fr' v v6 out rw i j j h4.n (goQ ll t i) cs∧ab fr' 15=some (ptr (2*H11.n) 0)∧ab fr' 11=some (KN j)) (fun hb=>?_) (fun hb=>?_) ?_
   ·simp only[decide_eq_true_eq] at hb
    rw[if_pos (hzc.1 hb)] at hgo
    simp -dsimp (disch:=omega) only[wpS,wpT,zE,zL,zA,iW,jx,aj ZT,g13,o9,o10,o11,o12,fg]
    have s14:=s13.Yz g13 (by omega) (by omega) (.cells [z1,z2,z3,z4] 0 none)
    exact⟨⟨z1,z2,z3,z4,ae _ _ rfl,by rw[hgo];exact Yw.aa ((aJ.refl _).put g13 _)⟩,by simp only[aH];omega,s14.frm (by simp[s.f0]) (by simp[s.f6]) (by simp[s.f7]) (by simp[s.f8]) (by simp[s.f9]) (by simp[s.f10]),by simp[f11]⟩
   ·simp only[decide_eq_false_iff_not] at hb
    rw[if_neg (fun h=>hb (hzc.2 h))] at hgo
    simp -dsimp (disch:=omega) only[wpS,wpT]
    exact⟨⟨x1,x2,x3,x4,g13,by rw[hgo];exact Yx⟩,by omega,s13.frm (by simp[s.f0]) (by simp[s.f6]) (by simp[s.f7]) (by simp[s.f8]) (by simp[s.f9]) (by simp[s.f10]),by simp[f11]⟩
   clear s13 g13 ZT Yx Yw s7 gx gy p5 p6 ZV gz ZU g15 p10
   rintro fr1 h1' ⟨⟨a1,a2,a3',a4,ga,pa⟩,lb,s1,f15,N8⟩
   obtain⟨_,_,_,_,he1,_,_,_,b1,_,b2,b3',b4⟩:=pa.parts
   cases he1
   simp -dsimp (disch:=omega) only[wpS,zE,s1.f8,N8]
   refine fC (fun fr' h'=>(∃a b c d,h'.ext.get H11.n=some (.cells [a,b,c,d] 0 none)∧fm h' (.agg #[a,b,c,d]) (pQ (goQ ll t i) i j))∧H11.n<h'.n∧FR hh h' fr' v v6 out rw i j j h4.n (goQ ll t i) cs∧ab fr' 15=some (ptr (2*H11.n) 0)∧ab fr' 11=some (KN j)) (fun hb=>?_) (fun hb=>?_) ?_
   ·have hij:i=j:=by simp at hb;omega
    have ep:pQ (goQ ll t i) i j=0:=if_pos hij
    simp -dsimp (disch:=omega) only[wpS,wpT]
    refine call zY ?_
    rintro r2 h2' ⟨Y2,p2⟩
    have l2:=Y2.n
    obtain⟨c1,c2,c3,c4,rfl,_,_,_,q1,_,q2,q3,q4⟩:=p2.parts
    have ga2:=Y2.kept lb ga
    simp -dsimp (disch:=omega) only[wpS,wpT,zE,zL,zA,iW,f15,ga2,q1,q2,q3,q4]
    have s2:=(s1.ext Y2).Yz ga2 (by omega) (by omega) (.cells [c1,c2,c3,c4] 0 none)
    exact⟨⟨c1,c2,c3,c4,ae _ _ rfl,by rw[ep];exact p2.aa ((aJ.refl _).put ga2 _)⟩,by simp only[aH];omega,s2.frm (by simp[s1.f0]) (by simp[s1.f6]) (by simp[s1.f7]) (by simp[s1.f8]) (by simp[s1.f9]) (by simp[s1.f10]),by simp[f15,N8]⟩
   ·have hij : ¬i=j:=by simp at hb;omega
    have ep:pQ (goQ ll t i) i j=goQ ll t i j:=if_neg hij
    simp -dsimp (disch:=omega) only[wpS,wpT]
    exact⟨⟨a1,a2,a3',a4,ga,by rw[ep];exact pa⟩,lb,s1.frm (by simp[s1.f0]) (by simp[s1.f6]) (by simp[s1.f7]) (by simp[s1.f8]) (by simp[s1.f9]) (by simp[s1.f10]),by simp[f15,N8]⟩
   clear s1 ga pa f15 N8 b1 b2 b3' b4
   rintro fr2 h2' ⟨⟨a1,a2,a3',a4,ga,pa⟩,lb,s2,f15,N8⟩
   obtain⟨_,_,_,_,he1,_,_,_,b1,_,b2,b3',b4⟩:=pa.parts
   cases he1
   obtain⟨c1,c2,c3,c4,gb,pb⟩:=s2.box
   simp -dsimp (disch:=omega) only[wpS,wpT,zE,zL,zA,jx,s2.f10,f15,aj ga,aj gb,fg]
   have qp:QB 1536 (pQ (goQ ll t i) i j):=by
    unfold pQ
    split
    ·exact QB.zero.mono (by omega)
    ·exact gq j hj
   refine call (zy pb pa (De fun k hk'=>gq k (by omega)) qp (by omega)) ?_
   rintro r3 h3' ⟨Y3,p3⟩
   have l3:=Y3.n
   obtain⟨d1,d2,d3,d4,rfl,_,_,_,q1,_,q2,q3,q4⟩:=p3.parts
   have gb3:=Y3.kept s2.b2 gb
   have ga3:=Y3.kept lb ga
   have s3:=(s2.ext Y3).sum p3
   have hne:H11.n≠h4.n:=by omega
   obtain⟨H14,NU⟩ : ∃X,X=h3'.put h4.n (.cells [d1,d2,d3,d4] 0 none):=⟨_,rfl⟩
   have n14:H14.n=h3'.n:=by rw[NU];rfl
   have ga4:H14.ext.get H11.n=some (.cells [a1,a2,a3',a4] 0 none):=by rw[NU,ak _ _ hne];exact ga3
   have pa4:fm H14 (.agg #[a1,a2,a3',a4]) (pQ (goQ ll t i) i j):=by rw[NU];exact(pa.aa Y3.aa).aa ((aJ.refl _).put gb3 _)
   rw[←NU] at s3
   have hle:=s3.E.n
   obtain⟨rw',h15,hap,hA15,Uf,hE15⟩:=s3.acc.se (P:=prog) (t:=220) VJ (m:=1) (new:=[a1,a2,a3',a4]) (by omega) rfl (by simp[b1,b2,b3',b4]) (by omega) (by omega) s3.E (Nat.le_refl _)
   have wE:append prog ((h3'.put h4.n (.cells [d1,d2,d3,d4] 0 none)).new (.cells [a1,a2,a3',a4] 4 none)) 220 rw (.slice (some ⟨2*h3'.n,0,none⟩) 1 3)=some (rw',h15):=by
    rw[←n14,←NU];exact hap
   have ga4':(h3'.put h4.n (.cells [d1,d2,d3,d4] 0 none)).row (2*H11.n)=some [a1,a2,a3',a4]:=by rw[←NU];exact aj ga4
   simp -dsimp (disch:=try exact dx) only[wpS,wpT,zE,zL,zA,iW,jx,VC,CL,s2.f9,s2.f10,f15,N8,gb3,q1,q2,q3,q4,fg,ga4',wE]
   obtain⟨e1',e2',e3',e4',gb4,pb4⟩:=s3.box
   have l15:=Uf.n
   refine⟨m2 - 1,by omega,j+1,rw',_,by omega,⟨hE15,hA15,?_,s3.b1,Nat.lt_of_lt_of_le s3.b2 l15,⟨_,_,_,_,Uf.var s3.b2 gb4,pb4.aa Uf.aa⟩,by simp[s2.f0],by simp[s2.f6],by simp[s2.f7],by simp[s2.f8],by simp,by simp[s2.f10]⟩,by simp⟩
   have er:(List.range (j+1)).map (pQ (goQ ll t i) i)=(List.range j).map (pQ (goQ ll t i) i) ++ [pQ (goQ ll t i) i j]:=by rw[List.range_succ,List.map_append];rfl
   rw[er]
   exact(s3.els.snoc pa4).aa nC Uf.aa
  ·obtain rfl:j=n:=by omega
   obtain⟨c1,c2,c3,c4,gb,pb⟩:=s.box
   have L1:=(ql4 gb).2.2
   have X0:=Ext.refl H
   simp -dsimp (disch:=omega) only[wpS,wpT]
   refine drawn [(3,[2])] (by kernel_rfl) (by kernel_rfl) rfl ?_
   simp -dsimp (disch:=omega) only[wpS,zE,s.f8,s.f9]
   refine call (uJ 1 1 ⟨by omega,by omega⟩ ⟨by omega,by omega⟩ (by omega)) ?_
   rintro r5 h5 ⟨X5,p5⟩
   rw[show Rat.divInt 1 1=(1:Rat) from rfl] at p5
   have gb5:=X5.kept s.b2 gb
   simp -dsimp (disch:=omega) only[wpS,wpT,zE,zL,zA,jx,s.f10,aj gb5,fg]
   refine call (M6 p5 (pb.aa X5.aa) (QB.int (k:=1) (n:=1) (by decide)) (De fun k hk'=>gq k (by omega)) (by omega)) ?_
   rintro r6 h6 ⟨X6,p6⟩
   rw[KP] at p6
   have X56:=X5.trans X6
   have s6:=s.ext X56
   obtain⟨d1,d2,d3,d4,rfl,_,_,_,q1,_,q2,q3,q4⟩:=p6.parts
   obtain⟨H7,st,acc7,E7,n7,b7,oth⟩:=s6.acc.Wi (P:=prog) (t:=177) yZ hi (x:=.agg #[d1,d2,d3,d4]) (xs:=[d1,d2,d3,d4]) rfl rfl (by simp[q1,q2,q3,q4]) s6.E (Nat.le_refl _)
   have kz:ru 1 h6 H7:=⟨by omega,b7,fun k c f hk hg=>⟨f,oth k c 1 f (by decide) hg⟩⟩
   have ix:=s6.acc.1.sl.idx LF (P:=prog) (k:=.i64) hi
   simp -dsimp (disch:=omega) only[wpS,zE,ix,st]
   refine⟨ad rfl rfl rfl rfl (ai s.f10 (KY L1 s.b2 X5) L1),?_⟩
   have hl7:=s6.acc.1.sl.2.1
   have fl:nF fm H7 rw (dK ll t i):=by
    refine⟨_,by rw[fb,←hn];exact acc7.1.sl,Ez (by rw[fb,←hn];exact acc7.1.sl.2.1) fun k q hq=>?_,by rw[fb];omega⟩
    have hkn:k<ll.length:=by have:=(List.getElem?_eq_some_iff.1 hq).1;rwa [fb] at this
    rw[jL hkn] at hq
    cases hq
    by_cases hki:k=i
    ·subst hki
     rw[mW,if_pos rfl,←hn]
     exact kU.set (by omega) (p6.qO kz)
    ·have hg:((List.range j).map (pQ (goQ ll t i) i))[k]?=some (mW ll t i k):=by
      rw[List.getElem?_map,List.getElem?_range (by omega),mW,if_neg hki]
      exact congrArg some (if_neg fun h=>hki h.symm)
     exact((UE s6.els hg).mono fun v p=>p.qO kz).other (by omega) hki
   simp -dsimp (disch:=omega) only[wpS,wpT,zE,zA,s.f9]
   refine call (MU fl (by rw[fb];omega)) ?_
   rintro r17 h17 ⟨X17,q1',q2'⟩
   have E17:=E7.trans X17
   by_cases ef : ∀q∈dK ll t i,QW q
   ·obtain⟨w,rfl,sw⟩:=q1' ef
    have n17:=E17.n
    obtain⟨dU,h18,hap,hA8,hG8,hE8⟩:=(hA.ext E17).Et (P:=prog) (t:=38) XM (x:=w) sw.co.2 (by omega) (by omega) (hE.trans E17) (Nat.le_refl _)
    simp -dsimp (disch:=omega) only[wpS,wpT,zE,zL,zA,XD,Er,s.f7,s.f8,sw.co,hap]
    refine⟨m - 1,by omega,i+1,dU,vs ++ [w],by omega,by simp[hvl],hE8,hA8,fun k hk'=>?_,fun k hk'=>?_,by simp[s.f0,s.f6]⟩
    ·by_cases hki:k=i
     ·subst hki
      exact⟨w,by rw[←hvl];simp,sw.aa hG8.aa⟩
     ·obtain⟨w',h1,h2⟩:=hR k (by omega)
      exact⟨w',by rw[List.getElem?_append_left (by omega)];exact h1,(h2.aa E17.aa).aa hG8.aa⟩
    ·by_cases hki:k=i
     ·subst hki;exact ef
     ·exact hQ k (by omega)
   ·obtain rfl:=q2' ef
    rw[e,if_neg fun h=>ef (h i (by omega))]
    simp -dsimp (disch:=omega) only[wpS,wpT,zE]
    exact⟨(X03.trans hE).trans E17,_,rfl,fun h=>absurd h (by decide),fun _=>rfl⟩
 ·obtain rfl:i=n:=by omega
  simp -dsimp (disch:=omega) only[wpS,wpT,zE,f7]
  have hfo:tO ll t:=fun k hk=>hQ k (by omega)
  rw[e,if_pos hfo]
  refine⟨X03.trans hE,out,rfl,fun _=>⟨vs,by rw[iQ,←hn];exact hA.sl,by rw[iQ];omega,fun k x hx=>?_⟩,fun h=>absurd rfl h⟩
  have hkl:k<ll.length:=by have:=(List.getElem?_eq_some_iff.1 hx).1;rwa [iQ] at this
  rw[Co hkl] at hx
  cases hx
  exact hR k (by omega)
end Go.Id
namespace Go.Id
open Go
open Classical in
noncomputable def levE (ll:List (List (Nat×Nat))) (ws:List Nat) (s:List Int) (level:Int):Int:=if ¬df ll then 330 else if UL ws s level≠0 then UL ws s level else if s.length≠ll.length then 2 else mX ll (YP (V5 s level) ws ws.length)
end Go.Id
namespace Go.Id
open Go





theorem M5 (l:List Rat) (a:Rat):l.foldl (· + ·) a=a+fU l:=by
 induction l generalizing a with
 | nil=>exact(Rat.add_zero a).symm
 | cons b l ih =>
  show l.foldl (· + ·) (a+b)=a+l.foldl (· + ·) (0+b)
  rw[ih,ih,Rat.zero_add,Rat.add_assoc]
theorem BI (q:Rat) (l:List Rat):fU (q :: l)=q+fU l:=by
 show l.foldl (· + ·) (0+q)=_
 rw[M5,Rat.zero_add]




def kerL (ll:List (List (Nat×Nat))) (ws:List Nat) (s:List Int) (lev:Int):List (List (Nat×Nat)):=ij ll (YP (V5 s lev) ws ws.length)

structure Reps (H:IH) (n1:Nat) (ks:List Nat) (lv:List Int) (kvs:List Value) (at_:Nat→Nat):Prop where
 len:ks.length=kvs.length
 asc : ∀(i j a b:Nat),i<j→ks[i]?=some a→ks[j]?=some b→a<b
 get : ∀(j k:Nat),ks[j]?=some k→n1≤k∧k<H.n ∧ ∃kv,kvs[j]?=some kv∧H.ext.get k=some (.cells [KI (lv.getD j 0),kv,KN (at_ j)] 0 none)
def pk (k:Nat):Value:=ptr (2*k) 0
structure RdA (h H:IH) (c b18:Nat) (ll:List (List (Nat×Nat))) (ws:List Nat) (s lv:List Int) (i:Nat) (cpv:Value) (ks:List Nat) (kvs:List Value) (n1:Nat):Prop where
 e:Ext h H
 g11:H.ext.get h.n=some (.cells [K64 c] 0 none)
 g12:H.ext.get (h.n+1)=some (.cells [.slice none 0 0] 0 none)
 g13:H.ext.get (h.n+2)=some (.cells [KI 0] 0 none)
 g14:H.ext.get (h.n+3)=some (.cells [.int .u64 0] 0 none)
 g15:H.ext.get (h.n+4)=some (.cells [KI 0] 0 none)
 bn:h.n+4<b18∧b18<n1∧n1≤H.n
 g18:H.ext.get b18=some (.cells [cpv] 0 none)
 acc:Acc H h.n 1 cpv i (ks.map pk)
 rep:Reps H n1 ks lv kvs (fun _=>0)
 ker : ∀(j:Nat) b,j<i→lv[j]?=some b → ∃kv',kvs[j]?=some kv'∧jt H kv' (kerL ll ws s b)∧levE ll ws s b=0
structure RdB (h H:IH) (ci b18:Nat) (sw:Int) (lv:List Int) (cpv:Value) (ks:List Nat) (kvs:List Value) (n1:Nat) (f:Nat→Nat):Prop where
 e:Ext h H
 g11:H.ext.get h.n=some (.cells [K64 ci] 0 none)
 g12:H.ext.get (h.n+1)=some (.cells [.slice none 0 0] 0 none)
 g13:H.ext.get (h.n+2)=some (.cells [KI sw] 0 none)
 g14:H.ext.get (h.n+3)=some (.cells [.int .u64 0] 0 none)
 g15:H.ext.get (h.n+4)=some (.cells [KI 0] 0 none)
 bn:h.n+4<b18∧b18<n1∧n1≤H.n
 g18:H.ext.get b18=some (.cells [cpv] 0 none)
 acc:Acc H h.n 1 cpv lv.length (ks.map pk)
 rep:Reps H n1 ks lv kvs f
structure TLf (fr:Fr) (w v14 v17:Value) (a b i j:Int) (bx:Nat):Prop where
 f1:ab fr 1=some w
 f2:ab fr 2=some (KI a)
 f3:ab fr 3=some (KI b)
 f4:ab fr 4=some (KI i)
 f5:ab fr 5=some (KI j)
 f6:ab fr 6=some (ptr (2*bx) 0)
 f14:ab fr 14=some v14
 f17:ab fr 17=some v17
section
variable {h hh:IH} {fr:Fr} {sz bx:Nat} {vN vS vL vA vR vQ w:Value} {lN lS lL lA ws:List Nat} {lR lQ:List Int} {a b i j:Int}
end
structure LVf (fr:Fr) (w:Value) (l:Int) (bx bb:Nat):Prop where
 f2:ab fr 2=some w
 f3:ab fr 3=some (KI l)
 f4:ab fr 4=some (ptr (2*bx) 0)
 f5:ab fr 5=some (ptr (2*bb) 0)
section
variable {h hh:IH} {fr:Fr} {sz bx bb:Nat} {vN vS vL vA vR vQ w:Value} {lN lS lL lA ws:List Nat} {lR lQ:List Int} {l:Int}
end
structure RDf (fr:Fr) (vr:Value) (bx bb bc:Nat):Prop where
 f3:ab fr 3=some vr
 f4:ab fr 4=some (ptr (2*bx) 0)
 f5:ab fr 5=some (ptr (2*bb) 0)
 f6:ab fr 6=some (ptr (2*bc) 0)
section
variable {h hh:IH} {fr:Fr} {sz bx bb bc s:Nat} {vN vS vL vA vR vQ vr:Value} {lN lS lL lA ws:List Nat} {lR lQ lr:List Int}
end
def dI (q:Rat) (B:Nat):Prop:=∃a:Int,q*(B:Rat)=(a:Rat)
theorem xo (q:Rat):q*(q.den:Rat)=(q.num:Rat):=by
 have h:((q.num:Int):Rat) / (q.den:Rat)=q:=by
  have:=Rat.num_divInt_den q
  rw[Rat.divInt_eq_div] at this
  exact this
 have hd:(0:Rat)<(q.den:Rat):=Rat.natCast_pos.2 q.den_pos
 grind
theorem EN {q:Rat} {B:Nat} (h:q.den∣B):dI q B:=by
 obtain⟨k,rfl⟩:=h
 refine⟨q.num*k,?_⟩
 have h1:q*(q.den:Rat)=(q.num:Rat):=xo q
 rw[Rat.natCast_mul,←Rat.mul_assoc,h1,Rat.intCast_mul];rfl
theorem dI.mul {q:Rat} {B:Nat} (h:dI q B) (k:Nat):dI q (B*k):=by
 obtain⟨a,ha⟩:=h
 exact⟨a*k,by rw[Rat.natCast_mul,←Rat.mul_assoc,ha,Rat.intCast_mul];rfl⟩
theorem dI.sub {q r:Rat} {B:Nat} (h:dI q B) (k:dI r B):dI (q - r) B:=by
 obtain⟨a,ha⟩:=h
 obtain⟨b,hb⟩:=k
 exact⟨a - b,by rw[Rat.intCast_sub,←ha,←hb];grind⟩
theorem HM {q:Rat} {B:Nat} (hB:0<B) (h0:0≤q) (h1:q≤1) (h:dI q B):q.den∣B∧0≤q.num∧q.num≤q.den:=by
 have n0:0≤q.num:=Rat.num_nonneg.2 h0
 have n1:q.num≤q.den:=by
  have hd:(0:Rat)<(q.den:Rat):=Rat.natCast_pos.2 q.den_pos
  have e:q*(q.den:Rat)=(q.num:Rat):=xo q
  have h2:q*(q.den:Rat)≤1*(q.den:Rat):=Rat.mul_le_mul_of_nonneg_right h1 (Rat.le_of_lt hd)
  rw[e,Rat.one_mul] at h2
  have:((q.num:Int):Rat)≤((q.den:Int):Rat):=h2
  exact Rat.intCast_le_intCast.1 this
 refine⟨?_,n0,n1⟩
 obtain⟨a,ha⟩:=h
 have hBr:(0:Rat)<(B:Rat):=Rat.natCast_pos.2 hB
 have a0:0≤a:=by
  have:(0:Rat)≤(a:Rat):=by rw[←ha];exact Rat.mul_nonneg h0 (Rat.le_of_lt hBr)
  exact_mod_cast this
 obtain⟨y,rfl⟩:=Int.eq_ofNat_of_zero_le a0
 obtain⟨m,_,_,e2⟩:=vk (y:=y) hB
 have hq:q=Rat.divInt (y:Nat) (B:Nat):=by
  rw[Rat.divInt_eq_div]
  have e1:((B:Int):Rat)=(B:Rat):=rfl
  have e2:(((y:Nat):Int):Rat)=q*(B:Rat):=ha.symm
  rw[e1,e2]
  grind
 rw[←hq] at e2
 exact⟨m,e2⟩
theorem Kx : ∀(l:List Rat),(∀q∈l,0≤q)→0≤fU l
 | [],_=>by show(0:Rat)≤0;exact Rat.le_refl
 | q :: l,h=>by
  have h1:=h q (by simp)
  have h2:=Kx l fun x hx=>h x (by simp[hx])
  rw[BI]
  grind
theorem Ky : ∀(l:List Rat),(∀q∈l,0≤q) → ∀q∈l,q≤fU l
 | [],_,q,hq=>by cases hq
 | a :: l,h,q,hq=>by
  have h1:=h a (by simp)
  have h2:=Kx l fun x hx=>h x (by simp[hx])
  rw[BI]
  rcases List.mem_cons.1 hq with rfl|hq
  ·grind
  ·have h3:=Ky l (fun x hx=>h x (by simp[hx])) q hq
   grind
theorem Jk {ll:List (List (Nat×Nat))} {t:List Nat} (k:df ll) (ht:t.length=ll.length) (hp : ∀p∈t,1≤wdI p) {i:Nat} (hi:i<ll.length):(∀q∈dK ll t i,0≤q)∧fU (dK ll t i)=1∧(∀j,j<ll.length→0≤goQ ll t i j∧goQ ll t i j≤kAt ll i j):=by
 have hw : ∀i,i<ll.length→0<cA (t.getD i 0):=fun i hi=>by
  have:=hp _ (List.getElem_mem (show i<t.length by omega))
  rw[List.getD_eq_getElem?_getD,List.getElem?_eq_getElem (by omega),Option.getD_some]
  unfold cA
  exact Rat.intCast_pos.2 (by omega)
 have hk : ∀i j,i<ll.length→j<ll.length→0≤kAt ll i j:=fun i j hi hj=>by
  obtain⟨_,p,_,_,_,e4,e5,e6⟩:=eX k hi hj
  rw[e6]
  exact Iq e4 e5
 have hg : ∀i j,i<ll.length→j<ll.length→0≤goQ ll t i j∧goQ ll t i j≤kAt ll i j:=fun i j hi hj=>by
  have h1:=hk i j hi hj
  have h2:=hk j i hj hi
  have w1:=hw i hi
  have w2:=hw j hj
  unfold goQ
  split
  ·rename_i c
   refine⟨?_,Rat.le_of_lt c⟩
   rw[Rat.div_def]
   exact Rat.mul_nonneg (Rat.mul_nonneg h2 (Rat.le_of_lt w2)) (Rat.le_of_lt (Rat.inv_pos.2 w1))
  ·exact⟨h1,Rat.le_refl⟩
 have hq : ∀i j,i<ll.length→j<ll.length→0≤mW ll t i j:=fun i j hi hj=>by
  unfold mW
  split
  ·have h1:=wg (i:=i) (m:=ll.length) (g:=goQ ll t i) (k:=kAt ll i) fun j hj=>(hg i j hi hj).2
   have h2:=qI (kAt ll i) i ll.length
   rw[Kr k hi,if_pos hi] at h2
   have h3:=hk i i hi hi
   grind
  ·exact(hg i j hi hj).1
 refine⟨fun q hq'=>?_,?_,fun j hj=>hg i j hi hj⟩
 ·obtain⟨j,hj⟩:=List.getElem?_of_mem hq'
  have hjl:=(List.getElem?_eq_some_iff.1 hj).1
  rw[fb] at hjl
  rw[jL hjl] at hj
  cases hj
  exact hq i j hi hjl
 ·have h1:=Dl (goQ ll t i) (nw (goQ ll t i) i ll.length) i ll.length
  have h2:=qI (goQ ll t i) i ll.length
  rw[if_pos hi] at h1 h2
  have e:dK ll t i=(List.range ll.length).map fun j=>if j=i then nw (goQ ll t i) i ll.length else goQ ll t i j:=rfl
  rw[e,h1]
  grind
theorem dI.times {q:Rat} {B:Nat} (h:dI q B) (x y:Nat) (hy:0<y):dI (q*(x:Rat) / (y:Rat)) (B*y):=by
 obtain⟨a,ha⟩:=h
 refine⟨a*x,?_⟩
 have hy':(0:Rat)<(y:Rat):=Rat.natCast_pos.2 hy
 rw[Rat.natCast_mul,Rat.intCast_mul,←ha]
 show q*(x:Rat) / (y:Rat)*((B:Rat)*(y:Rat))=q*(B:Rat)*(x:Rat)
 grind
theorem zM {g:Nat→Rat} {B i:Nat} : ∀{m:Nat},(∀j,j<m→dI (g j) B)→dI (nw g i m) B
 | 0,_=>⟨B,by rw[nw,Rat.one_mul];rfl⟩
 | m+1,h=>by
  have ih:=zM (i:=i) (m:=m) fun j hj=>h j (by omega)
  rw[nw]
  split
  ·exact ih
  ·exact ih.sub (h m (by omega))
theorem Ji {ll:List (List (Nat×Nat))} {t:List Nat} {D:Nat} (hD : ∀i j,i<ll.length→j<ll.length→dI (kAt ll i j) D) {T:Nat→Nat} (hT : ∀i,i<ll.length→0<T i∧cA (t.getD i 0)=(T i:Rat)) {i:Nat} (hi:i<ll.length) : ∀q∈dK ll t i,dI q (D*T i):=by
 have hg : ∀j,j<ll.length→dI (goQ ll t i j) (D*T i):=fun j hj=>by
  unfold goQ
  split
  ·rw[(hT j hj).2,(hT i hi).2]
   exact(hD j i hj hi).times _ _ (hT i hi).1
  ·exact(hD i j hi hj).mul _
 intro q hq
 obtain⟨j,hj⟩:=List.getElem?_of_mem hq
 have hjl:=(List.getElem?_eq_some_iff.1 hj).1
 rw[fb] at hjl
 rw[jL hjl] at hj
 cases hj
 unfold mW
 split
 ·exact zM hg
 ·exact hg j hjl
theorem SF {q:Rat} {B:Nat} (hB:0<B) (hB2:B<H8) (h0:0≤q) (h1:q≤1) (h:dI q B):QW q∧(shq q).2∣B∧(shq q).1≤(shq q).2∧0<(shq q).2:=by
 obtain⟨a,b,c⟩:=HM hB h0 h1 h
 have h8:=gU
 have hd:=Nat.le_of_dvd hB a
 have e1:(shq q).1=q.num.toNat:=by show aV q.num=_;unfold aV;rw[if_pos b]
 have e2:(shq q).2=q.den:=by show aV (q.den:Int)=_;unfold aV;rw[if_pos (by omega),Int.toNat_natCast]
 have dp:=q.den_pos
 refine⟨⟨⟨by omega,by omega⟩,⟨by omega,by omega⟩⟩,by rw[e2];exact a,by rw[e1,e2];omega,by rw[e2];exact dp⟩
theorem Ct : ∀(ll:List (List (Nat×Nat))),(∀x∈ll,∃S,smR S x) → ∃D,0<D∧D≤1000 ^ ll.length ∧ ∀x∈ll,∀p∈x,p.2∣D
 | [],_=>⟨1,by omega,by simp,fun x hx=>by cases hx⟩
 | l :: ll,h=>by
  obtain⟨D,h1,h2,h3⟩:=Ct ll fun x hx=>h x (by simp[hx])
  obtain⟨S,s1,s2,s3⟩:=h l (by simp)
  refine⟨D*S,Nat.mul_pos h1 s1,?_,fun x hx p hp=>?_⟩
  ·rw[List.length_cons,Nat.pow_succ]
   exact Nat.mul_le_mul h2 s2
  ·rcases List.mem_cons.1 hx with rfl|hx
   ·exact Nat.dvd_trans (s3 p hp).2.2 (Nat.dvd_mul_left _ _)
   ·exact Nat.dvd_trans (h3 x hx p hp) (Nat.dvd_mul_right _ _)
def Y9 (ll:List (List (Nat×Nat))):Prop:=df ll∧ll.length≤4 ∧ ∃D,0<D∧D≤1000000000000 ∧ ∀i j,i<ll.length→j<ll.length→dI (kAt ll i j) D
theorem Jt {ll:List (List (Nat×Nat))} (l1:1≤ll.length) (l2:ll.length≤4) (hr : ∀x∈ll,x.length=ll.length∧Ih x):Y9 ll:=by
 obtain⟨_,ok⟩:=TQ (ll:=ll) (by omega) (by omega) (fun x hx=>hr x hx)
 obtain⟨D,h1,h2,h3⟩:=Ct ll fun x hx=>(hr x hx).2.2.1
 refine⟨ok,l2,D,h1,Nat.le_trans h2 (Nat.le_trans (Nat.pow_le_pow_right (by omega) l2) (by decide)),fun i j hi hj=>?_⟩
 obtain⟨row,p,e1,e2,e3,e4,e5,e6⟩:=eX ok hi hj
 have hm:=List.mem_of_getElem? e1
 have hp:=List.mem_of_getElem? e3
 obtain⟨S,s1,s2,s3⟩:=(hr row hm).2.2.1
 have hS:=s3 p hp
 have hle:=Nat.le_of_dvd s1 hS.2.2
 rw[e6]
 refine EN ?_
 have hd:=(dC e4).2
 rw[VU (by omega)] at hd
 have:(rOf p).den=p.2:=by omega
 rw[this]
 exact h3 row hm p hp
theorem Sp {a b:Nat} (h:a+b=511):H8=2 ^ a*2 ^ b:=by rw[XU,←Nat.pow_add,h]
theorem Za4 {D T:Nat} (hD:D≤1000000000000) (hT:T≤9*2 ^ 240):60*(D*T)<H8:=by
 have e:=Sp (a:=271) (b:=240) rfl
 rw[e]
 have h1:D*T≤1000000000000*(9*2 ^ 240):=Nat.mul_le_mul hD hT
 have h2:(2:Nat) ^ 50≤2 ^ 271:=Tf (a:=50) (b:=271) (by omega)
 have h3:(2:Nat) ^ 50=1125899906842624:=by decide
 have h4:0<2 ^ 240:=Nat.two_pow_pos 240
 generalize 2 ^ 240=X at *
 generalize 2 ^ 271=Y at *
 have h5:1125899906842624*X≤Y*X:=Nat.mul_le_mul_right _ (by omega)
 omega

theorem OB {a b x y:Rat} (hx:0<x) (hy:0<y):(if a*x / y<b then a*x / y else b)*y / x=(if b*y / x<a then b*y / x else a):=by
 have k1:a*x / y<b↔a*x<b*y:=by rw[Rat.div_lt_iff hy]
 have k2:b*y / x<a↔b*y<a*x:=by rw[Rat.div_lt_iff hx]
 simp only[k1,k2]
 by_cases c1:a*x<b*y
 ·rw[if_pos c1,if_neg (by grind)]
  grind
 ·rw[if_neg c1]
  by_cases c2:b*y<a*x
  ·rw[if_pos c2]
  ·rw[if_neg c2]
   have e:b*y=a*x:=by grind
   rw[e]
   grind
theorem GL {ll:List (List (Nat×Nat))} {t:List Nat} (ho:tO ll t) {i j:Nat} (hi:i<ll.length) (hj:j<ll.length):kAt (ij ll t) i j=mW ll t i j:=by
 have hq:=ho i hi _ (List.mem_of_getElem? (jL (ll:=ll) (t:=t) (i:=i) hj))
 unfold kAt
 rw[List.getD_eq_getElem?_getD,List.getD_eq_getElem?_getD,Co hi,Option.getD_some,List.getElem?_map,jL hj]
 exact(cK hq).1
theorem MV {ll:List (List (Nat×Nat))} {t:List Nat} (ht:t.length=ll.length) (hp : ∀p∈t,1≤wdI p) (ho:tO ll t) (i j:Nat) (hi:i<ll.length) (hj:j<i) :
  cA (t.getD i 0)*kAt (ij ll t) i j=cA (t.getD j 0)*kAt (ij ll t) j i:=by
 have hw : ∀i,i<ll.length→0<cA (t.getD i 0):=fun i hi=>by
  have:=hp _ (List.getElem_mem (show i<t.length by omega))
  rw[List.getD_eq_getElem?_getD,List.getElem?_eq_getElem (by omega),Option.getD_some]
  unfold cA
  exact Rat.intCast_pos.2 (by omega)
 have wi:=hw i hi
 have wj:=hw j (by omega)
 have e:kAt (ij ll t) j i*cA (t.getD j 0) / cA (t.getD i 0)=kAt (ij ll t) i j:=by
  rw[GL ho hi (by omega),GL ho (by omega) hi]
  unfold mW
  rw[if_neg (by omega),if_neg (by omega)]
  exact OB wi wj
 rw[←e]
 grind
end Go.Id
