/-
  Contracts: package kernel: Filter. Lists that grow, with the sizes of their families' blocks: a store into one leaves everything of another size as it is.
-/
import Derived.Test.YtnanhedgenokpaaGreatTemperMovesAt
import Derived.Test.YtnanhedgenokpaaGreatTemperMovesBp
import Derived.Test.YtnanhedgenokpaaGreatTemperMovesBm
import Derived.Test.YtnanhedgenokpaaGreatTemperMovesBo
import Derived.Test.YtnanhedgenokpaaGreatTemperMovesBh
import Derived.Test.YtnanhedgenokpaaGreatTemperMovesBf
set_option linter.unusedVariables false
set_option linter.unusedSimpArgs false
set_option linter.defProp false
set_option linter.deprecated false
namespace Go.Id
open Go
open Go.Proofs.Tryz (prog)
open Nat renaming reduceAdd→zA,reduceEqDiff→zE,reduceLeDiff→zL
set_option maxHeartbeats 16000000
structure FJ (hh H:IH) (fr:Fr) (v v7 out v10:Value) (n i d e b11:Nat) (g:Nat→Rat) (cs:List Value):Prop where
 E:Ext hh H
 rb:re H 4 hh.n v10 n cs
 done : ∀k,k<e→kG dU H cs k (g k)
 b1:hh.n<b11
 b2:b11<H.n
 box : ∃a s b u,H.ext.get b11=some (.cells [a,s,b,u] 0 none)∧dU H (.agg #[a,s,b,u]) (im g i d)
 f0:ah fr 0=some v
 f7:ah fr 7=some v7
 f8:ah fr 8=some out
 f9:ah fr 9=some (KN i)
 f10:ah fr 10=some v10
 f11:ah fr 11=some (ptr (2*b11) 0)
 f35:ah fr 35=some (KN n)
 f36:ah fr 36=some (KN i)
 f44:ah fr 44=some (KN n)
theorem FJ.fr {hh H:IH} {fr gr:Fr} {v v7 out v10:Value} {n i d e b11:Nat} {g:Nat→Rat} {cs:List Value} (s:FJ hh H fr v v7 out v10 n i d e b11 g cs) (f0:ah gr 0=some v) (f7:ah gr 7=some v7) (f8:ah gr 8=some out) (f9:ah gr 9=some (KN i)) (f10:ah gr 10=some v10) (f11:ah gr 11=some (ptr (2*b11) 0)) (f35:ah gr 35=some (KN n)) (f36:ah gr 36=some (KN i)) (f44:ah gr 44=some (KN n)):FJ hh H gr v v7 out v10 n i d e b11 g cs :=
 ⟨s.E,s.rb,s.done,s.b1,s.b2,s.box,f0,f7,f8,f9,f10,f11,f35,f36,f44⟩
theorem FJ.ext {hh H H':IH} {fr:Fr} {v v7 out v10:Value} {n i d e b11:Nat} {g:Nat→Rat} {cs:List Value} (s:FJ hh H fr v v7 out v10 n i d e b11 g cs) (X:Ext H H'):FJ hh H' fr v v7 out v10 n i d e b11 g cs:=by
 obtain⟨a,s',b,u,h1,h2⟩:=s.box
 exact⟨s.E.trans X,s.rb.ext X,fun k hk=>(s.done k hk).mono fun v p=>p.ab X.ab,s.b1,Nat.lt_of_lt_of_le s.b2 X.n,⟨a,s',b,u,X.kept s.b2 h1,h2.ab X.ab⟩,s.f0,s.f7,s.f8,s.f9,s.f10,s.f11,s.f35,s.f36,s.f44⟩
theorem FJ.set {hh H:IH} {fr:Fr} {v v7 out v10:Value} {n i d e b11:Nat} {g:Nat→Rat} {cs:List Value} (s:FJ hh H fr v v7 out v10 n i d e b11 g cs) {j:Nat} (hj:j<n) (hje:e≤j) {x1 x2 x3 x4:Value} (hc:([x1,x2,x3,x4]:List Value).all aG=true) :
  ∃H',store prog H 139 (aK v10 (j*4)) (.agg #[x1,x2,x3,x4])=some H'∧FJ hh H' fr v v7 out v10 n i d e b11 g (IH.aD cs (j*4) [x1,x2,x3,x4])∧nS 1 H H'∧H'.n=H.n∧(∀k,k≠hh.n→H'.ext.get k=H.ext.get k):=by
 obtain⟨h1,h2⟩:=s.rb.set (P:=prog) (t:=139) uf hj (x:=.agg #[x1,x2,x3,x4]) (xs:=[x1,x2,x3,x4]) rfl rfl hc
 have kz:nS 1 H (H.put hh.n (.cells (IH.aD cs (j*4) [x1,x2,x3,x4]) 4 none)):=(nS.refl 1 H).put s.rb.got (by decide) _
 have hl:=s.rb.len
 obtain⟨a,s',b,u,g1,g2⟩:=s.box
 have hb:=s.b1
 refine⟨_,h1,⟨s.E.put (Nat.le_refl _) _,h2,fun k hk=>((s.done k hk).mono fun v p=>p.qk kz).other (by omega) (by omega),s.b1,s.b2,⟨a,s',b,u,by rw[ae _ _ (by omega)];exact g1,g2.qk kz⟩,s.f0,s.f7,s.f8,s.f9,s.f10,s.f11,s.f35,s.f36,s.f44⟩,kz,rfl,fun k hk=>ae _ _ hk⟩
theorem FJ.off {hh H:IH} {fr:Fr} {v v7 out v10:Value} {n i d d' e b11:Nat} {g:Nat→Rat} {cs:List Value} (s:FJ hh H fr v v7 out v10 n i d e b11 g cs) {z1 z2 z3 z4:Value} (p:dU H (.agg #[z1,z2,z3,z4]) (im g i d')):FJ hh (H.put b11 (.cells [z1,z2,z3,z4] 0 none)) fr v v7 out v10 n i d' e b11 g cs:=by
 obtain⟨a,s',b,u,h1,h2⟩:=s.box
 have K:=(aF.refl H).put h1 (.cells [z1,z2,z3,z4] 0 none)
 have hb:=s.b1
 exact⟨s.E.put (by omega) _,s.rb.put h1 _,fun k hk=>(s.done k hk).mono fun v p=>p.ab K,s.b1,s.b2,⟨_,_,_,_,ad _ _ rfl,p.ab K⟩,s.f0,s.f7,s.f8,s.f9,s.f10,s.f11,s.f35,s.f36,s.f44⟩
theorem FJ.same {hh H:IH} {fr:Fr} {v v7 out v10:Value} {n i d d' e b11:Nat} {g:Nat→Rat} {cs:List Value} (s:FJ hh H fr v v7 out v10 n i d e b11 g cs) (h:im g i d'=im g i d):FJ hh H fr v v7 out v10 n i d' e b11 g cs:=by
 obtain⟨a,s',b,u,h1,h2⟩:=s.box
 exact⟨s.E,s.rb,s.done,s.b1,s.b2,⟨a,s',b,u,h1,by rw[h];exact h2⟩,s.f0,s.f7,s.f8,s.f9,s.f10,s.f11,s.f35,s.f36,s.f44⟩
theorem FJ.more {hh H:IH} {fr:Fr} {v v7 out v10:Value} {n i d e e' b11:Nat} {g:Nat→Rat} {cs:List Value} (s:FJ hh H fr v v7 out v10 n i d e b11 g cs) (h : ∀k,k<e'→kG dU H cs k (g k)):FJ hh H fr v v7 out v10 n i d e' b11 g cs :=
 ⟨s.E,s.rb,h,s.b1,s.b2,s.box,s.f0,s.f7,s.f8,s.f9,s.f10,s.f11,s.f35,s.f36,s.f44⟩
theorem Mg (x y:Rat):(if x<y then (-1:Int) else if x=y then 0 else 1)<0↔x<y:=by
 by_cases h:x<y
 ·rw[if_pos h];exact⟨fun _=>h,fun _=>by omega⟩
 ·rw[if_neg h]
  refine⟨fun k=>?_,fun k=>absurd k h⟩
  split at k<;>omega
theorem Fg {h:IH} {v w:Value} {ll:List (List (Nat×Nat))} {t:List Nat} (hv:je h v ll) (hw:iA h w t) :
  WV prog (.func (.func 24) #[] #[]) [v,w] h fun r h'=>Ext h h' ∧ ∃out,r=.tuple #[out,KI (kF ll t)]∧(kF ll t=0→je h' out (kB ll t))∧(kF ll t≠0→out=.slice none 0 0):=by
 obtain⟨_,_,hlen⟩:=hv.co
 have hlw:=hw.1.len (P:=prog) rK
 have htb:=hw.2.1
 refine enter (nt:=115) (rs:=[.tmp 4,.tmp 5]) Proofs.Tryz.func24 rfl rfl rfl (by simp) ?_
 simp -dsimp (disch:=try exact dx) only[wpS,zE,zA]
 refine call (tO hv) ?_
 rintro _ h1 ⟨X1,rfl⟩
 by_cases hk:fL ll
 case neg =>
  have e:kF ll t=330:=by rw[kF,if_pos hk]
  rw[e,Fh,if_neg hk]
  simp -dsimp (disch:=try exact dx) only[wpS,wpT,zE]
  exact⟨X1,_,rfl,fun h=>absurd h (by decide),fun _=>rfl⟩
 rw[Fh,if_pos hk]
 have hk1:=hk.1
 have hk2:=hk.2.1
 obtain⟨n,hn⟩ : ∃n,n=ll.length:=⟨_,rfl⟩
 rw[←hn] at hk1 hk2 hlen
 by_cases ht:t.length=n
 case neg =>
  have e:kF ll t=2:=by rw[kF,if_neg (fun h=>h hk),if_pos (.inl (by omega))]
  have d:(((t.length:Nat):Int) != ((n:Nat):Int))=true:=by simpa using fun h=>ht (by omega)
  rw[e]
  simp -dsimp (disch:=try exact dx) only[wpS,wpT,zE,hlen,hlw,d]
  exact⟨X1,_,rfl,fun h=>absurd h (by decide),fun _=>rfl⟩
 have d:(((t.length:Nat):Int) != ((n:Nat):Int))=false:=by simp[ht]
 simp -dsimp (disch:=try exact dx) only[wpS,wpT,zE,hlen,hlw,d]
 refine call (Bi (least:=1) (hw.ab X1.ab) ⟨by omega,by omega⟩) ?_
 rintro _ h2 ⟨X2,rfl⟩
 by_cases Du : ∃p∈t,wdI p<1
 case pos =>
  have e:kF ll t=2:=by rw[kF,if_neg (fun h=>h hk),if_pos (.inr Du)]
  rw[decide_eq_true Du,e]
  simp -dsimp (disch:=try exact dx) only[wpS,zE]
  exact⟨X1.trans X2,_,rfl,fun h=>absurd h (by decide),fun _=>rfl⟩
 rw[decide_eq_false Du]
 have e:kF ll t=(open Classical in if xJ ll t then 0 else 6):=by rw[kF,if_neg (fun h=>h hk),if_neg (fun h=>h.elim (fun h=>h (by omega)) Du)]
 simp -dsimp (disch:=try exact dx) only[wpS,zE]
 refine call (KU (hw.ab (X1.trans X2).ab) (by omega)) ?_
 rintro v7 h3 ⟨X3,sv7⟩
 have X03:=(X1.trans X2).trans X3
 have pt : ∀j,j<n→t.getD j 0<W8∧1≤wdI (t.getD j 0)∧(t.map kY)[j]?=some (kY (t.getD j 0)):=fun j hj=>by
  have hjt:j<t.length:=by omega
  have hm:t.getD j 0∈t:=by rw[List.getD_eq_getElem?_getD,List.getElem?_eq_getElem hjt];exact List.getElem_mem hjt
  refine⟨hw.2.2 _ hm,Classical.byContradiction fun hc=>Du ⟨_,hm,by omega⟩,?_⟩
  rw[List.getElem?_map,List.getD_eq_getElem?_getD,List.getElem?_eq_getElem hjt];rfl
 have hv3:=hv.ab X03.ab
 simp -dsimp (disch:=try exact dx) only[wpS,zE,hlen]
 refine loop (fun m fr hh => ∃(i:Nat) (out:Value) (vs:List Value),i+m=n∧vs.length=i∧Ext h3 hh∧Acc hh h3.n 1 out i vs∧(∀k,k<i → ∃w,vs[k]?=some w∧iM hh w ((dA ll t k).map shq))∧(∀k,k<i → ∀q∈dA ll t k,QW q)∧ah fr 0=some v∧ah fr 7=some v7∧ah fr 8=some out∧ah fr 35=some (KN n)∧ah fr 36=some (KN i)) n
  ⟨0,.slice none 0 0,[],by omega,rfl,Ext.refl _,Acc.nil _ _ (by omega),fun k hk=>by omega,fun k hk=>by omega,by simp,by simp,by simp,by simp,by simp⟩ ?_
 rintro m fr hh ⟨i,out,vs,him,hvl,hE,hA,hR,hQ,f0,f7,f8,f35,f36⟩
 have nE:=hE.n
 simp -dsimp (disch:=try exact dx) only[wpS,f35,f36]
 refine ax ?_ ?_<;>intro hc<;>simp only[decide_eq_true_eq,decide_eq_false_iff_not] at hc
 ·have hi:i<n:=by omega
  simp -dsimp (disch:=try exact dx) only[wpS,wpT,zE,RF,f0,f36,hlen]
  obtain⟨v10,Qg⟩ : ∃x,x=Value.slice (some ⟨2*hh.n,0,none⟩) n (2*n+1):=⟨_,rfl⟩
  obtain⟨H1,hH1⟩ : ∃H,H=hh.new (.cells (bA n ZR) 4 none):=⟨_,rfl⟩
  have E1:Ext hh H1:=by rw[hH1];exact(Ext.refl hh).new _
  have n1:H1.n=hh.n+1:=by rw[hH1];rfl
  have r1:re H1 4 hh.n v10 n (bA n ZR):=⟨Qg,by rw[CL];rfl,by omega,by omega,by omega,by rw[hH1];simp (disch:=try exact dx) only[aa]⟩
  rw[←Qg,←hH1]
  clear hH1 Qg
  refine call (ow 1 ⟨by omega,by omega⟩) ?_
  rintro r4 h4 ⟨X4,p4⟩
  have m4:=X4.n
  obtain⟨a3,s3,b3,t3,rfl,_,_,d1,o1,d2,o2,o3,o4⟩:=p4.parts
  simp -dsimp (disch:=try exact dx) only[wpS,wpT,zE,zL,zA,jQ,jh,f0,hlen,o1,o2,o3,o4]
  have E5:Ext h4 ((h4.new (.cells ZR 0 none)).put h4.n (.cells [a3,s3,b3,t3] 0 none)):=((Ext.refl h4).new _).put (Nat.le_refl _) _
  refine loop (fun m2 fr H => ∃(j:Nat) (cs:List Value),j+m2=n∧FJ hh H fr v v7 out v10 n i j j h4.n (goQ ll t i) cs∧ah fr 45=some (KN j)) n
   ⟨0,_,by omega,⟨(E1.trans X4).trans E5,r1.ext (X4.trans E5),fun k hk=>by omega,by omega,by simp,⟨a3,s3,b3,t3,by simp (disch:=try exact dx) only[ad],p4.ab E5.ab⟩,by simp[f0],by simp[f7],by simp[f8],by simp,by simp,by simp,by simp[f35],by simp[f36],by simp⟩,by simp⟩ ?_
  clear f0 f7 f8 f35 f36 r1 E1 X4 p4 E5
  rintro m2 fr H ⟨j,cs,hjm,s,f45⟩
  simp -dsimp (disch:=try exact dx) only[wpS,s.f44,f45]
  refine ax ?_ ?_<;>intro hc2<;>simp only[decide_eq_true_eq,decide_eq_false_iff_not] at hc2
  ·have hj:j<n:=by omega
   obtain⟨ri,p,e1,l1,e2,ok1,nn1,k1⟩:=j5 hk (i:=i) (j:=j) (by omega) (by omega)
   obtain⟨rj,q,e3,l3,e4,ok2,nn2,k2⟩:=j5 hk (i:=j) (j:=i) (by omega) (by omega)
   have hvh:=hv3.ab hE.ab
   obtain⟨wi,A1,A2,A3⟩:=hvh.nR e1
   obtain⟨wj,B1,B2,B3⟩:=hvh.nR e3
   have Lp:=fun h' (K:aF hh h')=>A2.ld K e2
   have Lq:=fun h' (K:aF hh h')=>B2.ld K e4
   have ip:=A2.1.idx sK (P:=prog) (k:=.i64) (j:=j) (by omega)
   have iq:=B2.1.idx sK (P:=prog) (k:=.i64) (j:=i) (by omega)
   have wp:=A2.2.2 p (List.mem_of_getElem? e2)
   have wq:=B2.2.2 q (List.mem_of_getElem? e4)
   have K0:=s.E.ab
   simp -dsimp (disch:=try exact dx) only[wpS,wpT,zE,f45]
   refine drawn [(11,[7]),(14,[7])] (by kernel_rfl) (by kernel_rfl) rfl ?_
   simp -dsimp (disch:=try exact dx) only[wpS,zE,s.f0,s.f9,A3,A1 H K0,ip,Lp H K0]
   refine call (jt p.1 p.2 wp.1 wp.2) ?_
   rintro r5 h5 ⟨X5,p5⟩
   have p5:=p5.rat ok1
   rw[←k1] at p5
   have K5:=(s.E.trans X5).ab
   simp -dsimp (disch:=try exact dx) only[wpS,zE,s.f0,s.f9,B3,B1 h5 K5,iq,Lq h5 K5]
   refine call (jt q.1 q.2 wq.1 wq.2) ?_
   rintro r6 h6 ⟨X6,p6⟩
   have p6:=p6.rat ok2
   rw[←k2] at p6
   have X56:=X5.trans X6
   have p5:=p5.ab X6.ab
   obtain⟨x1,x2,x3,x4,rfl,_,_,d1,o1,d2,o2,o3,o4⟩:=p5.parts
   obtain⟨y1,y2,y3,y4,rfl,_,_,d5,o5,d6,o6,o7,o8⟩:=p6.parts
   simp -dsimp (disch:=try exact dx) only[wpS,wpT,zE,zL,zA,jQ,jh,o1,o2,o3,o4,o5,o6,o7,o8]
   refine⟨by repeat' first|refine aN ?_ ?_|refine aI ?_ ?_|exact ak rfl rfl rfl rfl (aA rfl (B1 _ K5) (B1 _ K0))|exact ak rfl rfl rfl rfl (aA rfl (Lq _ K5) (Lq _ K0)),?_⟩
   obtain⟨H7,hH7⟩ : ∃X,X=(((h6.new (.cells ZR 0 none)).new (.cells ZR 0 none)).put h6.n (.cells [x1,x2,x3,x4] 0 none)).put (h6.n+1) (.cells [y1,y2,y3,y4] 0 none):=⟨_,rfl⟩
   have E7:Ext h6 H7:=by rw[hH7];exact((((Ext.refl h6).new _).new _).put (Nat.le_refl _) _).put (Nat.le_succ _) _
   have n7:H7.n=h6.n+2:=by rw[hH7];rfl
   have gx:H7.ext.get h6.n=some (.cells [x1,x2,x3,x4] 0 none):=by rw[hH7];simp (disch:=try exact dx) only[ad,ae]
   have gy:H7.ext.get (h6.n+1)=some (.cells [y1,y2,y3,y4] 0 none):=by rw[hH7];simp (disch:=try exact dx) only[ad]
   rw[←hH7]
   clear hH7
   have s7:=s.ext (X56.trans E7)
   have p5:=p5.ab E7.ab
   have p6:=p6.ab E7.ab
   have hb6:=s7.E.n
   have hb66:hh.n<h6.n:=by have:=(s.E.trans X56).n;have:=s.b1;have:=(s.ext X56).b2;omega
   obtain⟨H8,st8,s8,kz8,n8,gk8⟩:=s7.set hj (Nat.le_refl j) (x1:=x1) (x2:=x2) (x3:=x3) (x4:=x4) (by simp[o1,o2,o3,o4])
   have ix : ∀k,k<n→indexAddr prog 153 v10 (KN k)=some (aK v10 (k*4)):=fun k hk=>s7.rb.sl.idx Dz (k:=.i64) hk
   simp -dsimp (disch:=try exact dx) only[wpS,wpT,zE,zL,zA,iJ,s.f10,ai gx,kA,ix j hj,st8]
   have hcl:=s7.rb.len
   have q5:=p5.qk kz8
   have q6:=p6.qk kz8
   have at8:kG dU H8 (IH.aD cs (j*4) [x1,x2,x3,x4]) j (kAt ll i j):=kG.set (by omega) q5
   have gx8:H8.ext.get h6.n=some (.cells [x1,x2,x3,x4] 0 none):=(gk8 _ (by omega)).trans gx
   have gy8:H8.ext.get (h6.n+1)=some (.cells [y1,y2,y3,y4] 0 none):=(gk8 _ (by omega)).trans gy
   clear p5 p6 s7 gx gy st8 kz8 gk8
   have sv:=sv7.ab tM hE.ab
   have sv0 : ∃cs,bI hh 4 v7 (t.map kY).length cs:=⟨_,sv.choose_spec.1⟩
   obtain⟨cst,svt⟩:=sv0
   rw[List.length_map] at svt
   obtain⟨u1,u2,u3,u4,Lu,pu⟩:=sv.nR tM (pt j hj).2.2 DY uf (P:=prog)
   obtain⟨w1,w2,w3,w4,Lw,pw⟩:=sv.nR tM (pt i hi).2.2 DY uf (P:=prog)
   have iu:=svt.idx Dz (P:=prog) (k:=.i64) (j:=j) (by omega)
   have iw:=svt.idx Dz (P:=prog) (k:=.i64) (j:=i) (by omega)
   have K8:=s8.E.ab
   refine drawn [(9,[5])] (by kernel_rfl) (by kernel_rfl) rfl ?_
   simp -dsimp (disch:=try exact dx) only[wpS,wpT,zE,zL,zA,iJ,s.f7,ai gy8,kA,iu,Lu H8 K8]
   have qb1:QB 512 (kAt ll i j):=by rw[k1];exact uv wp.1 wp.2 ok1
   have qb2:QB 512 (kAt ll j i):=by rw[k2];exact uv wq.1 wq.2 ok2
   have qb3:=vi (pt j hj).1
   have qb4:=vi (pt i hi).1
   refine call (Ig q6 (pu.ab K8) qb2 qb3 (by omega)) ?_
   rintro r9 h9 ⟨X9,p9⟩
   have K9:=(s8.E.trans X9).ab
   simp -dsimp (disch:=try exact dx) only[wpS,zE,s.f7,s.f9,iw,Lw h9 K9]
   refine call (wM p9 (pw.ab K9) (qb2.mul qb3) qb4 (by omega) (AJ (pt i hi).2.1)) ?_
   rintro r10 h10 ⟨X10,p10⟩
   have X90:=X9.trans X10
   have Rz:=(qb2.mul qb3).div qb4 (AJ (pt i hi).2.1)
   obtain⟨bk,hbk⟩ : ∃x,x=kAt ll j i*kY (t.getD j 0) / kY (t.getD i 0):=⟨_,rfl⟩
   have hgo:goQ ll t i j=if bk<kAt ll i j then bk else kAt ll i j:=by rw[hbk];rfl
   rw[←hbk] at p10 Rz
   clear hbk p9 qb2 qb3 qb4
   obtain⟨z1,z2,z3,z4,rfl,_,_,d9,o9,d10,o10,o11,o12⟩:=p10.parts
   simp -dsimp (disch:=try exact dx) only[wpS,wpT,zE,zL,zA,jQ,jh,o9,o10,o11,o12]
   refine⟨by repeat' first|refine aN ?_ ?_|refine aI ?_ ?_|exact ak rfl rfl rfl rfl (aA rfl (Lw _ K9) (Lw _ K8)),?_⟩
   obtain⟨H11,Bw⟩ : ∃X,X=(h10.new (.cells ZR 0 none)).put h10.n (.cells [z1,z2,z3,z4] 0 none):=⟨_,rfl⟩
   have E11:Ext h10 H11:=by rw[Bw];exact((Ext.refl h10).new _).put (Nat.le_refl _) _
   have n11:H11.n=h10.n+1:=by rw[Bw];rfl
   have gz:H11.ext.get h10.n=some (.cells [z1,z2,z3,z4] 0 none):=by rw[Bw];simp (disch:=try exact dx) only[ad]
   rw[←Bw]
   clear Bw
   have Q4:=X90.trans E11
   have UO:=Q4.kept (by omega) gx8
   simp -dsimp (disch:=try exact dx) only[wpS,wpT,zE,zL,zA,iJ,ai gz,ai UO,kA]
   refine call (Gn (p10.ab E11.ab) (q5.ab Q4.ab) Rz qb1 (by omega)) ?_
   rintro _ h12 ⟨X12,rfl⟩
   obtain⟨zz,hz,hzc⟩ : ∃z:Int,(if bk<kAt ll i j then (-1:Int) else if bk=kAt ll i j then 0 else 1)=z∧(z<0↔bk<kAt ll i j):=⟨_,rfl,Mg _ _⟩
   rw[hz]
   have TD:=Q4.trans X12
   have s12:=s8.ext TD
   have UN:=X12.kept (by omega) gz
   have UU:=at8.mono fun v p=>p.ab TD.ab
   have T4:=p10.ab (E11.trans X12).ab
   simp -dsimp (disch:=try exact dx) only[wpS,zE]
   refine fR (fun fr' h' => ∃cs',FJ hh h' fr' v v7 out v10 n i j (j+1) h4.n (goQ ll t i) cs'∧ah fr' 12=some (KN j)∧ah fr' 45=some (KN j)) (fun hb=>?_) (fun hb=>?_) ?_
   ·simp only[decide_eq_true_eq] at hb
    rw[if_pos (hzc.1 hb)] at hgo
    obtain⟨H13,TX,s13,Uh,n13,gk13⟩:=s12.set hj (Nat.le_refl j) (x1:=z1) (x2:=z2) (x3:=z3) (x4:=z4) (by simp[o9,o10,o11,o12])
    simp -dsimp (disch:=try exact dx) only[wpS,wpT,zE,zL,zA,iJ,s.f10,ai UN,kA,ix j hj,TX]
    refine⟨_,(s13.more fun k hk=>?_).fr (by simp[s.f0]) (by simp[s.f7]) (by simp[s.f8]) (by simp[s.f9]) (by simp[s.f10]) (by simp[s.f11]) (by simp[s.f35]) (by simp[s.f36]) (by simp[s.f44]),by simp,by simp[f45]⟩
    by_cases hkj:k=j
    ·subst hkj
     rw[hgo]
     exact kG.set (by rw[s12.rb.len];omega) (T4.qk Uh)
    ·exact s13.done k (by omega)
   ·simp only[decide_eq_false_iff_not] at hb
    rw[if_neg (fun h=>hb (hzc.2 h))] at hgo
    simp -dsimp (disch:=try exact dx) only[wpS,wpT]
    refine⟨_,(s12.more fun k hk=>?_).fr (by simp[s.f0]) (by simp[s.f7]) (by simp[s.f8]) (by simp[s.f9]) (by simp[s.f10]) (by simp[s.f11]) (by simp[s.f35]) (by simp[s.f36]) (by simp[s.f44]),by simp,by simp[f45]⟩
    by_cases hkj:k=j
    ·subst hkj
     rw[hgo]
     exact UU
    ·exact s12.done k (by omega)
   ·rintro fr' h' ⟨cs',s',g12,g45⟩
    have gq : ∀k,k<n→QB 1536 (goQ ll t i k):=fun k hk'=>by
     obtain⟨_,a,b1,_,b2,b3,_,b4⟩:=j5 hk (i:=i) (j:=k) (by omega) (by omega)
     obtain⟨_,c,b5,_,b6,b7,_,b8⟩:=j5 hk (i:=k) (j:=i) (by omega) (by omega)
     have w1:=(hvh.nR b1).choose_spec.2.1.2.2 a (List.mem_of_getElem? b2)
     have w2:=(hvh.nR b5).choose_spec.2.1.2.2 c (List.mem_of_getElem? b6)
     exact QC (by rw[b4];exact uv w1.1 w1.2 b3) (by rw[b8];exact uv w2.1 w2.2 b7) (pt k hk').1 (pt i hi).1 (pt i hi).2.1
    by_cases hij:i=j
    ·have d:(((i:Nat):Int) != ((j:Nat):Int))=false:=by simp[hij]
     simp -dsimp (disch:=try exact dx) only[wpS,zE,s'.f9,g12,g45,d]
     have eo:im (goQ ll t i) i (j+1)=im (goQ ll t i) i j:=by rw[im,if_pos hij.symm]
     refine⟨m2 - 1,by omega,j+1,cs',by omega,(s'.same eo).fr (by simp[s'.f0]) (by simp[s'.f7]) (by simp[s'.f8]) (by simp[s'.f9]) (by simp[s'.f10]) (by simp[s'.f11]) (by simp[s'.f35]) (by simp[s'.f36]) (by simp[s'.f44]),by simp⟩
    ·have d:(((i:Nat):Int) != ((j:Nat):Int))=true:=by simpa using fun h=>hij (by omega)
     obtain⟨a,sa,b,u,N5,Nu⟩:=s'.box
     obtain⟨c1,c2,c3,c4,Ub,T5⟩:=s'.rb.ld (s'.done j (by omega)) hj DY uf (P:=prog)
     simp -dsimp (disch:=try exact dx) only[wpS,wpT,zE,zL,zA,iJ,s'.f9,s'.f10,s'.f11,g12,d,ai N5,kA,ix j hj,Ub]
     refine call (Ik Nu T5 (GK fun k hk'=>gq k (by omega)) (gq j hj) (by omega)) ?_
     rintro r15 h15 ⟨X15,p15⟩
     have eo:im (goQ ll t i) i (j+1)=im (goQ ll t i) i j - goQ ll t i j:=by rw[im,if_neg fun h=>hij h.symm]
     rw[←eo] at p15
     obtain⟨z5,z6,z7,z8,rfl,_,_,d13,o13,d14,o14,o15,o16⟩:=p15.parts
     have SF:=X15.kept s'.b2 N5
     simp -dsimp (disch:=try exact dx) only[wpS,wpT,zE,zL,zA,jh,s'.f11,g45,SF,o13,o14,o15,o16]
     refine⟨m2 - 1,by omega,j+1,cs',by omega,((s'.ext X15).off p15).fr (by simp[s'.f0]) (by simp[s'.f7]) (by simp[s'.f8]) (by simp[s'.f9]) (by simp[s'.f10]) (by simp[s'.f11]) (by simp[s'.f35]) (by simp[s'.f36]) (by simp[s'.f44]),by simp⟩
  ·obtain rfl:j=n:=by omega
   obtain⟨a,sa,b,u,N5,Nu⟩:=s.box
   obtain⟨_,_,_,_,he,_,_,_,o1,_,o2,o3,o4⟩:=Nu.parts
   cases he
   obtain⟨st,rb'⟩:=s.rb.set (P:=prog) (t:=139) uf hi (x:=.agg #[a,sa,b,u]) (xs:=[a,sa,b,u]) rfl rfl (by simp[o1,o2,o3,o4])
   have kz:nS 1 H (H.put hh.n (.cells (IH.aD cs (i*4) [a,sa,b,u]) 4 none)):=(nS.refl 1 H).put s.rb.got (by decide) _
   have E16:Ext hh (H.put hh.n (.cells (IH.aD cs (i*4) [a,sa,b,u]) 4 none)):=s.E.put (Nat.le_refl _) _
   have hcl:=s.rb.len
   have dE:yZ dU (H.put hh.n (.cells (IH.aD cs (i*4) [a,sa,b,u]) 4 none)) v10 (dA ll t i):=by
    refine⟨_,by rw[eK,←hn];exact rb'.sl,HE (by rw[eK,←hn];exact rb'.len) fun k q hq=>?_,by rw[eK];omega⟩
    have hkn:k<ll.length:=by have:=(List.getElem?_eq_some_iff.1 hq).1;rwa [eK] at this
    rw[nu hkn] at hq
    cases hq
    by_cases hki:k=i
    ·subst hki
     rw[oU,if_pos rfl,←hn]
     exact kG.set (by omega) (Nu.qk kz)
    ·rw[oU,if_neg hki]
     exact((s.done k (by omega)).mono fun v p=>p.qk kz).other (by omega) hki
   obtain⟨H16,SH⟩ : ∃X,X=H.put hh.n (.cells (IH.aD cs (i*4) [a,sa,b,u]) 4 none):=⟨_,rfl⟩
   rw[←SH] at st E16 dE
   clear SH rb' kz
   have ix:indexAddr prog 153 v10 (KN i)=some (aK v10 (i*4)):=s.rb.sl.idx Dz (k:=.i64) hi
   simp -dsimp (disch:=try exact dx) only[wpS,wpT,zE,zL,zA,iJ,s.f9,s.f10,s.f11,ai N5,kA,ix,st]
   refine call (KT dE (by rw[eK];omega)) ?_
   rintro r17 h17 ⟨X17,q1,q2⟩
   have E17:=E16.trans X17
   by_cases dC : ∀q∈dA ll t i,QW q
   ·obtain⟨w,rfl,sw⟩:=q1 dC
    have n17:=E17.n
    obtain⟨bR,h18,hap,hA8,hG8,hE8⟩:=(hA.ext E17).tj (P:=prog) (t:=38) Q0 (x:=w) sw.co.2 (by omega) (by omega) (hE.trans E17) (Nat.le_refl _)
    simp -dsimp (disch:=try exact dx) only[wpS,wpT,zE,zL,zA,Mr,BQ,s.f8,s.f36,sw.co,hap]
    refine⟨m - 1,by omega,i+1,bR,vs ++ [w],by omega,by simp[hvl],hE8,hA8,fun k hk'=>?_,fun k hk'=>?_,by simp[s.f0],by simp[s.f7],by simp,by simp[s.f35],by simp⟩
    ·by_cases hki:k=i
     ·subst hki
      exact⟨w,by rw[←hvl];simp,sw.ab hG8.ab⟩
     ·obtain⟨w',h1,h2⟩:=hR k (by omega)
      exact⟨w',by rw[List.getElem?_append_left (by omega)];exact h1,(h2.ab E17.ab).ab hG8.ab⟩
    ·by_cases hki:k=i
     ·subst hki;exact dC
     ·exact hQ k (by omega)
   ·obtain rfl:=q2 dC
    rw[e,if_neg fun h=>dC (h i (by omega))]
    simp -dsimp (disch:=try exact dx) only[wpS,wpT,zE]
    exact⟨(X03.trans hE).trans E17,_,rfl,fun h=>absurd h (by decide),fun _=>rfl⟩
 ·obtain rfl:i=n:=by omega
  simp -dsimp (disch:=try exact dx) only[wpS,wpT,zE,f8]
  have hfo:xJ ll t:=fun k hk=>hQ k (by omega)
  rw[e,if_pos hfo]
  refine⟨X03.trans hE,out,rfl,fun _=>⟨vs,by rw[gh,←hn];exact hA.sl,by rw[gh];omega,fun k x hx=>?_⟩,fun h=>absurd rfl h⟩
  have hkl:k<ll.length:=by have:=(List.getElem?_eq_some_iff.1 hx).1;rwa [gh] at this
  rw[zY hkl] at hx
  cases hx
  exact hR k (by omega)
end Go.Id

namespace Go.Id
open Go
def U6 (h:IH) (sz:Nat) (v:Value):Prop:=∀k n c,v=.slice (some ⟨2*k,0,none⟩) n c → ∀cs f rest,h.ext.get k=some (.cells cs sz (some f))→h.cM.get f=some (k :: rest) → ∀j∈rest,∃c' f',h.ext.get j=some (.cells c' sz f')
def U7 (h:IH) (n0 sz:Nat) (v:Value) (n:Nat) (cs:List Value):Prop:=Acc h n0 sz v n cs∧U6 h sz v
end Go.Id

namespace Go.Id
open Go
end Go.Id

namespace Go.Id
open Go
def pQ (g:Nat→Rat) (i j:Nat):Rat:=if i=j then 0 else g j
def Rt (g:Nat→Rat) (i:Nat):Nat→Rat
 | 0=>0
 | j+1=>Rt g i j+pQ g i j
structure FR (hh H:IH) (fr:Fr) (v v6 out rw:Value) (i d e b10:Nat) (g:Nat→Rat) (cs:List Value):Prop where
 E:Ext hh H
 acc:U7 H hh.n 4 rw e cs
 els:lT nC H ((List.range e).map (pQ g i)) cs
 b1:hh.n≤b10
 b2:b10<H.n
 box : ∃a s b u,H.ext.get b10=some (.cells [a,s,b,u] 0 none)∧nC H (.agg #[a,s,b,u]) (Rt g i d)
 f0:ah fr 0=some v
 f6:ah fr 6=some v6
 f7:ah fr 7=some out
 f8:ah fr 8=some (KN i)
 f9:ah fr 9=some rw
 f10:ah fr 10=some (ptr (2*b10) 0)
section
variable {hh H H':IH} {fr gr:Fr} {v v6 out rw:Value} {i d e b10:Nat} {g:Nat→Rat} {cs:List Value}
end
end Go.Id

namespace Go.Id
open Go
open Go.Proofs.Tryz (prog)
open Nat renaming reduceAdd→zA,reduceEqDiff→zE
set_option maxHeartbeats 16000000
open Classical in
noncomputable def gN (ll:List (List (Nat×Nat))) (ws:List Nat) (s:List Int) (level:Int):Int:=if ¬fL ll then 330 else if nI ws s level≠0 then nI ws s level else if s.length≠ll.length then 2 else kF ll (jv (jo s level) ws ws.length)
theorem mV {h:IH} {v w x:Value} {ll:List (List (Nat×Nat))} {ws:List Nat} {s:List Int} {level:Int} (hv:je h v ll) (hw:iA h w ws) (hs:fI h x s) (hl:dH level) :
  WV prog (.func (.func 20) #[] #[]) [v,w,x,KI level] h fun r h'=>Ext h h' ∧ ∃out,r=.tuple #[out,KI (gN ll ws s level)]∧(gN ll ws s level=0→je h' out (kB ll (jv (jo s level) ws ws.length)))∧(gN ll ws s level≠0→out=.slice none 0 0):=by
 obtain⟨_,_,hlen⟩:=hv.co
 have hls:=hs.1.len (P:=prog) cW
 refine enter (nt:=38) (rs:=[.tmp 8,.tmp 9]) Proofs.Tryz.func20 rfl rfl rfl (by simp) ?_
 simp -dsimp (disch:=try exact dx) only[wpS,zE,zA]
 refine call (tO hv) ?_
 rintro _ h1 ⟨X1,rfl⟩
 by_cases hk:fL ll
 case neg =>
  have e:gN ll ws s level=330:=by rw[gN,if_pos hk]
  rw[e,Fh,if_neg hk]
  simp -dsimp (disch:=try exact dx) only[wpS,wpT,zE]
  exact⟨X1,_,rfl,fun h=>absurd h (by decide),fun _=>rfl⟩
 rw[Fh,if_pos hk]
 simp -dsimp (disch:=try exact dx) only[wpS,wpT,zE]
 refine call (mU (hw.ab X1.ab) (hs.ab X1.ab) hl) ?_
 rintro _ h2 ⟨X2,t,rfl,q1,q2⟩
 have X12:=X1.trans X2
 by_cases ht:nI ws s level=0
 case neg =>
  have e:gN ll ws s level=nI ws s level:=by rw[gN,if_neg (fun h=>h hk),if_pos ht]
  have d:(nI ws s level != 0)=true:=by simpa using ht
  rw[e]
  simp -dsimp (disch:=try exact dx) only[wpS,zE,d]
  exact⟨X12,_,rfl,fun h=>absurd h ht,fun _=>rfl⟩
 rw[ht]
 by_cases hn:s.length=ll.length
 case neg =>
  have e:gN ll ws s level=2:=by rw[gN,if_neg (fun h=>h hk),if_neg (fun h=>h ht),if_pos hn]
  have d:(((s.length:Nat):Int) != ((ll.length:Nat):Int))=true:=by simpa using fun h=>hn (by omega)
  rw[e]
  simp -dsimp (disch:=try exact dx) only[wpS,wpT,zE,hlen,hls,d]
  exact⟨X12,_,rfl,fun h=>absurd h (by decide),fun _=>rfl⟩
 have e:gN ll ws s level=kF ll (jv (jo s level) ws ws.length):=by rw[gN,if_neg (fun h=>h hk),if_neg (fun h=>h ht),if_neg (fun h=>h hn)]
 have d:(((s.length:Nat):Int) != ((ll.length:Nat):Int))=false:=by simp[hn]
 simp -dsimp (disch:=try exact dx) only[wpS,wpT,zE,hlen,hls,d]
 refine call (Fg (hv.ab X12.ab) (q1 ht)) ?_
 rintro _ h3 ⟨X3,out,rfl,q3,q4⟩
 rw[e]
 simp -dsimp (disch:=try exact dx) only[wpS,zE]
 exact⟨X12.trans X3,out,rfl,q3,q4⟩
theorem OT {h:IH} {v:Value} {l:List (Nat×Nat)} (s:iM h v l) {i:Nat} {p:Nat×Nat} (hi:l[i]?=some p):p.1<W8∧p.2<W8:=s.2.2 p (List.mem_of_getElem? hi)
theorem KY {h:IH} {v w:Value} {ll mm:List (List (Nat×Nat))} (hv:je h v ll) (hw:je h w mm) :
  WV prog (.func (.func 99) #[] #[]) [v,w] h fun r h'=>h'=h∧r=.bool (decide (ll=mm)):=by
 obtain⟨_,_,lv⟩:=hv.co
 obtain⟨_,_,lw⟩:=hw.co
 have b1:=hv.choose_spec.2.1
 have b2:=hw.choose_spec.2.1
 refine enter (nt:=53) (rs:=[.tmp 4]) Proofs.Tryz.func99 rfl rfl rfl (by simp) ?_
 by_cases hl:ll.length=mm.length
 case neg =>
  have d:(((ll.length:Nat):Int) != ((mm.length:Nat):Int))=true:=by simpa using fun h=>hl (by omega)
  rw[decide_eq_false (fun h=>hl (by rw[h]))]
  simp -dsimp (disch:=try exact dx) only[wpS,wpT,zE,zA,lv,lw,d]
 have d:(((ll.length:Nat):Int) != ((mm.length:Nat):Int))=false:=by simp[hl]
 simp -dsimp (disch:=try exact dx) only[wpS,zE,zA,lv,lw,d]
 refine loop (fun m fr hh=>hh=h ∧ ∃i:Nat,i+m=ll.length∧(∀j,j<i→ll[j]?=mm[j]?)∧ah fr 0=some v∧ah fr 1=some w∧ah fr 5=some (KN i)) ll.length
  ⟨rfl,0,by omega,fun j hj=>by omega,by simp,by simp,by simp⟩ ?_
 rintro m fr hh ⟨rfl,i,him,hz,f0,f1,f5⟩
 simp -dsimp (disch:=try exact dx) only[wpS,zE,f0,f5,lv]
 refine ax ?_ ?_<;>intro hc<;>simp only[decide_eq_true_eq,decide_eq_false_iff_not] at hc
 ·have hi:i<ll.length:=by omega
  obtain⟨x,hx⟩ : ∃x,ll[i]?=some x:=⟨_,List.getElem?_eq_getElem hi⟩
  obtain⟨y,hy⟩ : ∃y,mm[i]?=some y:=⟨mm[i]'(by omega),List.getElem?_eq_getElem (by omega)⟩
  obtain⟨wx,A1,A2,A3⟩:=hv.nR hx
  obtain⟨wy,B1,B2,B3⟩:=hw.nR hy
  have K:=aF.refl hh
  have lx:=A2.1.len (P:=prog) rJ
  have ly:=B2.1.len (P:=prog) rJ
  have bx:=A2.2.1
  have by':=B2.2.1
  by_cases hxy:x.length=y.length
  case neg =>
   have d:(((x.length:Nat):Int) != ((y.length:Nat):Int))=true:=by simpa using fun h=>hxy (by omega)
   have hne : ¬ll=mm:=fun h'=>hxy (by rw[h'] at hx;rw[hx] at hy;cases hy;rfl)
   simp -dsimp (disch:=try exact dx) only[wpS,wpT,zE,f0,f1,f5,A3,B3,A1 hh K,B1 hh K,lx,ly,d]
   rw[decide_eq_false hne]
  have d:(((x.length:Nat):Int) != ((y.length:Nat):Int))=false:=by simp[hxy]
  simp -dsimp (disch:=try exact dx) only[wpS,wpT,zE,f0,f1,f5,A3,B3,A1 hh K,B1 hh K,lx,ly,d]
  refine loop (fun m2 fr h2=>h2=hh ∧ ∃j:Nat,j+m2=x.length∧(∀k,k<j→x[k]?=y[k]?)∧ah fr 0=some v∧ah fr 1=some w∧ah fr 5=some (KN i)∧ah fr 6=some (KN j)) x.length
   ⟨rfl,0,by omega,fun j hj=>by omega,by simp[f0],by simp[f1],by simp[f5],by simp⟩ ?_
  clear f0 f1 f5
  rintro m2 fr h2 ⟨rfl,j,hjm,hq,f0,f1,f5,f6⟩
  simp -dsimp (disch:=try exact dx) only[wpS,zE,f0,f5,f6,A3,A1 h2 K,lx]
  refine ax ?_ ?_<;>intro hc2<;>simp only[decide_eq_true_eq,decide_eq_false_iff_not] at hc2
  ·have hj:j<x.length:=by omega
   obtain⟨p,hp⟩ : ∃p,x[j]?=some p:=⟨_,List.getElem?_eq_getElem hj⟩
   obtain⟨q,hq'⟩ : ∃q,y[j]?=some q:=⟨y[j]'(by omega),List.getElem?_eq_getElem (by omega)⟩
   have wp:=OT A2 hp
   have wq:=OT B2 hq'
   have Lp:load prog h2 32 (aK wx (j*16))=some (.agg (shC p.1 p.2).toArray):=A2.ld K hp
   have Lq:load prog h2 32 (aK wy (j*16))=some (.agg (shC q.1 q.2).toArray):=B2.ld K hq'
   by_cases hpq:p.1=q.1∧p.2=q.2
   ·have zc : ∀ox oy,binop prog .neq 32 ox oy (.agg (shC p.1 p.2).toArray) (.agg (shC q.1 q.2).toArray)=some (.bool false):=fun ox oy=>by
     rw[J9 wp.1 wp.2 wq.1 wq.2,decide_eq_true hpq];rfl
    simp -dsimp (disch:=try exact dx) only[wpS,wpT,zE,f0,f1,f5,f6,A3,B3,A1 h2 K,B1 h2 K,A2.1.idx sK (P:=prog) (k:=.i64) hj,B2.1.idx sK (P:=prog) (k:=.i64) (show j<y.length by omega),Lp,Lq,zc]
    refine⟨m2 - 1,by omega,rfl,j+1,by omega,fun k hk=>?_,by simp[f0],by simp[f1],by simp[f5],by simp⟩
    by_cases hkj:k=j
    ·subst hkj;rw[hp,hq'];exact congrArg some (Prod.ext hpq.1 hpq.2)
    ·exact hq k (by omega)
   ·have zc : ∀ox oy,binop prog .neq 32 ox oy (.agg (shC p.1 p.2).toArray) (.agg (shC q.1 q.2).toArray)=some (.bool true):=fun ox oy=>by
     rw[J9 wp.1 wp.2 wq.1 wq.2,decide_eq_false hpq];rfl
    have hne : ¬ll=mm:=fun h'=>hpq (by
     rw[h'] at hx;rw[hx] at hy;cases hy
     rw[hp] at hq';cases hq';exact⟨rfl,rfl⟩)
    simp -dsimp (disch:=try exact dx) only[wpS,wpT,zE,f0,f1,f5,f6,A3,B3,A1 h2 K,B1 h2 K,A2.1.idx sK (P:=prog) (k:=.i64) hj,B2.1.idx sK (P:=prog) (k:=.i64) (show j<y.length by omega),Lp,Lq,zc]
    rw[decide_eq_false hne]
  ·have exy:x=y:=by
    apply List.ext_getElem?
    intro k
    by_cases hk:k<j
    ·exact hq k hk
    ·rw[List.getElem?_eq_none (by omega),List.getElem?_eq_none (by omega)]
   simp -dsimp (disch:=try exact dx) only[wpS,wpT,zE,f5]
   refine⟨m - 1,by omega,rfl,i+1,by omega,fun k hk=>?_,by simp[f0],by simp[f1],by simp⟩
   by_cases hki:k=i
   ·subst hki;rw[hx,hy,exy]
   ·exact hz k (by omega)
 ·have e:ll=mm:=by
   apply List.ext_getElem?
   intro k
   by_cases hk:k<i
   ·exact hz k hk
   ·rw[List.getElem?_eq_none (by omega),List.getElem?_eq_none (by omega)]
  rw[decide_eq_true e]
  simp -dsimp (disch:=try exact dx) only[wpS,wpT]
end Go.Id

namespace Go.Id
open Go
def uc (b:Nat) (h h':IH):Prop:=h'.n=h.n∧h'.base=h.base∧(∀j,j≠b→h'.ext.get j=h.ext.get j)∧h'.cM=h.cM
theorem uc.refl (b:Nat) (h:IH):uc b h h:=⟨rfl,rfl,fun _ _=>rfl,rfl⟩
theorem uc.ext {b:Nat} {g h h':IH} (s:uc b h h') (e:Ext g h) (hg:g.n≤b):Ext g h' :=
 ⟨by rw[s.1];exact e.n,by rw[s.2.1];exact e.base,fun j hj=>(s.2.2.1 j (by omega)).trans (e.get j hj),fun f hf=>by rw[s.2.2.2];exact e.cM f hf⟩
end Go.Id
