/-
  Contracts: reference 33: Filter. Contracts: package temper and reference 34: Level; reference 33: Same.
-/
import Derived.Test.YtjhnilfelokpcaaGreatTemperLevelsAt
import Derived.Test.YtjhnilfelokpcaaGreatTemperLevelsBt
import Derived.Test.YtjhnilfelokpcaaGreatTemperLevelsBs
set_option linter.unusedVariables false
set_option linter.unusedSimpArgs false
set_option linter.defProp false
set_option linter.deprecated false
namespace Go.Id
open Go
open Go.Proofs.Tryz (prog)
open Nat renaming reduceAdd→zA,reduceEqDiff→zE,reduceLeDiff→zL
set_option maxHeartbeats 16000000
theorem LongIs.keepZ {h h':IH} {v:Value} {z:Int} (p:LongIs h v z) (e:KeepZ 1 h h'):LongIs h' v z:=by
 obtain⟨s,h1,ds,d1,d2⟩:=p
 exact⟨s,h1,ds,⟨d1.1.keepZ e,d1.2⟩,d2⟩
theorem RRat.keepZ {h h':IH} {v:Value} {q:Rat} (p:RRat h v q) (e:KeepZ 1 h h'):RRat h' v q:=by
 obtain⟨a,s,b,t,h1,h2,h3⟩:=p
 exact⟨a,s,b,t,h1,h2.keepZ e,h3.keepZ e⟩
def pQ (g:Nat→Rat) (i j:Nat):Rat:=if i=j then 0 else g j
def sumP (g:Nat→Rat) (i:Nat):Nat→Rat
 | 0=>0
 | j+1=>sumP g i j+pQ g i j
theorem off_sum (g:Nat→Rat) (i:Nat) : ∀n,1 - sumP g i n=offS g i n
 | 0=>by rw[sumP,offS];grind
 | n+1=>by
  have ih:=off_sum g i n
  rw[sumP,offS,pQ]
  by_cases h:i=n
  ·rw[if_pos h,if_pos h.symm,←ih];grind
  ·rw[if_neg h,if_neg (fun e=>h e.symm),←ih];grind
theorem sumP_qb {g:Nat→Rat} {i:Nat} {k:Nat} : ∀{n:Nat},(∀j,j<n→QB k (g j))→QB (n*(k+1)) (sumP g i n)
 | 0,_=>⟨by rw[sumP];exact Nat.zero_le _,by rw[sumP];exact Nat.one_le_two_pow⟩
 | n+1,h=>by
  have ih:=sumP_qb (i:=i) (n:=n) fun j hj=>h j (by omega)
  have e:(n+1)*(k+1)=n*(k+1)+k+1:=by rw[Nat.add_mul];omega
  rw[sumP,e]
  have hp:QB k (pQ g i n):=by
   unfold pQ
   split
   ·exact QB.zero.mono (by omega)
   ·exact h n (by omega)
  exact ih.add hp
structure FR (hh H:IH) (fr:Fr) (v v6 out rw:Value) (i d e b10:Nat) (g:Nat→Rat) (cs:List Value):Prop where
 E:Ext hh H
 acc:AccF H hh.n 4 rw e cs
 els:ElCs RRat H ((List.range e).map (pQ g i)) cs
 b1:hh.n≤b10
 b2:b10<H.n
 box : ∃a s b u,H.ext.get b10=some (.cells [a,s,b,u] 0 none)∧RRat H (.agg #[a,s,b,u]) (sumP g i d)
 f0:fget fr 0=some v
 f6:fget fr 6=some v6
 f7:fget fr 7=some out
 f8:fget fr 8=some (KN i)
 f9:fget fr 9=some rw
 f10:fget fr 10=some (ptr (2*b10) 0)
section
variable {hh H H':IH} {fr gr:Fr} {v v6 out rw:Value} {i d e b10:Nat} {g:Nat→Rat} {cs:List Value}
theorem FR.frm (s:FR hh H fr v v6 out rw i d e b10 g cs) (f0:fget gr 0=some v) (f6:fget gr 6=some v6) (f7:fget gr 7=some out) (f8:fget gr 8=some (KN i)) (f9:fget gr 9=some rw) (f10:fget gr 10=some (ptr (2*b10) 0)):FR hh H gr v v6 out rw i d e b10 g cs :=
 ⟨s.E,s.acc,s.els,s.b1,s.b2,s.box,f0,f6,f7,f8,f9,f10⟩
theorem FR.ext (s:FR hh H fr v v6 out rw i d e b10 g cs) (X:Ext H H'):FR hh H' fr v v6 out rw i d e b10 g cs:=by
 obtain⟨a,s',b,u,h1,h2⟩:=s.box
 exact⟨s.E.trans X,s.acc.ext X,s.els.keep kept_r X.keep,s.b1,Nat.lt_of_lt_of_le s.b2 X.n,⟨a,s',b,u,X.kept s.b2 h1,h2.keep X.keep⟩,s.f0,s.f6,s.f7,s.f8,s.f9,s.f10⟩
theorem FR.putV (s:FR hh H fr v v6 out rw i d e b10 g cs) {b:Nat} {c:List Value} {f:Option Nat} (hb:H.ext.get b=some (.cells c 0 f)) (h1:hh.n≤b) (h2:b≠b10) (o:IObj):FR hh (H.put b o) fr v v6 out rw i d e b10 g cs:=by
 obtain⟨a,s',b',u,h3,h4⟩:=s.box
 have K:=(Keep.refl H).put hb o
 exact⟨s.E.put h1 _,s.acc.put hb o,s.els.keep kept_r K,s.b1,s.b2,⟨a,s',b',u,by rw[get_put_old _ _ (fun h=>h2 h.symm)];exact h3,h4.keep K⟩,s.f0,s.f6,s.f7,s.f8,s.f9,s.f10⟩
theorem FR.sum (s:FR hh H fr v v6 out rw i d e b10 g cs) {z1 z2 z3 z4:Value} (p:RRat H (.agg #[z1,z2,z3,z4]) (sumP g i (d+1))):FR hh (H.put b10 (.cells [z1,z2,z3,z4] 0 none)) fr v v6 out rw i (d+1) e b10 g cs:=by
 obtain⟨a,s',b',u,h3,h4⟩:=s.box
 have K:=(Keep.refl H).put h3 (.cells [z1,z2,z3,z4] 0 none)
 exact⟨s.E.put s.b1 _,s.acc.put h3 _,s.els.keep kept_r K,s.b1,s.b2,⟨_,_,_,_,get_put_same _ _ rfl,p.keep K⟩,s.f0,s.f6,s.f7,s.f8,s.f9,s.f10⟩
end
open Classical in
theorem rkfilter_ok {h:IH} {v w:Value} {ll:List (List (Nat×Nat))} {t:List Nat} (hv:ShLs h v ll) (hw:WiSl h w t) :
  WV prog (.func (.func 81) #[] #[]) [v,w] h fun r h'=>Ext h h' ∧ ∃out,r=.tuple #[out,KI (filtE ll t)]∧(filtE ll t=0→ShLs h' out (filtLL ll t))∧(filtE ll t≠0→out=.slice none 0 0):=by
 obtain⟨_,_,hlen⟩:=hv.co
 have hlw:=hw.1.len (P:=prog) sl28
 have htb:=hw.2.1
 refine enter (nt:=108) (rs:=[.tmp 4,.tmp 5]) Proofs.Tryz.func81 rfl rfl rfl (by simp) ?_
 simp -dsimp (disch:=try exact dx) only[wpS,zE,zA]
 refine call (kright_ok hv) ?_
 rintro _ h1 ⟨X1,rfl⟩
 by_cases hk:kerOk ll
 case neg =>
  have e:filtE ll t=330:=by rw[filtE,if_pos hk]
  rw[e,decide_eq_false hk]
  simp -dsimp (disch:=try exact dx) only[wpS,wpT,zE]
  exact⟨X1,_,rfl,fun h=>absurd h (by decide),fun _=>rfl⟩
 rw[decide_eq_true hk]
 have hk1:=hk.1
 have hk2:=hk.2.1
 obtain⟨n,hn⟩ : ∃n,n=ll.length:=⟨_,rfl⟩
 rw[←hn] at hk1 hk2 hlen
 by_cases ht:t.length=n
 case neg =>
  have e:filtE ll t=2:=by rw[filtE,if_neg (fun h=>h hk),if_pos (.inl (by omega))]
  have d:(((t.length:Nat):Int) != ((n:Nat):Int))=true:=by simpa using fun h=>ht (by omega)
  rw[e]
  simp -dsimp (disch:=try exact dx) only[wpS,wpT,zE,hlen,hlw,d]
  exact⟨X1,_,rfl,fun h=>absurd h (by decide),fun _=>rfl⟩
 have d:(((t.length:Nat):Int) != ((n:Nat):Int))=false:=by simp[ht]
 simp -dsimp (disch:=try exact dx) only[wpS,wpT,zE,hlen,hlw,d]
 refine call (kunder_ok (least:=1) (hw.keep X1.keep) ⟨by omega,by omega⟩) ?_
 rintro _ h2 ⟨X2,rfl⟩
 by_cases hneg : ∃p∈t,wdI p<1
 case pos =>
  have e:filtE ll t=2:=by rw[filtE,if_neg (fun h=>h hk),if_pos (.inr hneg)]
  rw[decide_eq_true hneg,e]
  simp -dsimp (disch:=try exact dx) only[wpS,zE]
  exact⟨X1.trans X2,_,rfl,fun h=>absurd h (by decide),fun _=>rfl⟩
 rw[decide_eq_false hneg]
 have e:filtE ll t=(open Classical in if filtOk ll t then 0 else 6):=by rw[filtE,if_neg (fun h=>h hk),if_neg (fun h=>h.elim (fun h=>h (by omega)) hneg)]
 simp -dsimp (disch:=try exact dx) only[wpS,zE]
 refine call (kvalues_ok (hw.keep (X1.trans X2).keep) (by omega)) ?_
 rintro v6 h3 ⟨X3,sv7⟩
 have X03:=(X1.trans X2).trans X3
 have pt : ∀j,j<n→t.getD j 0<W8∧1≤wdI (t.getD j 0)∧(t.map wrat)[j]?=some (wrat (t.getD j 0)):=fun j hj=>by
  have hjt:j<t.length:=by omega
  have hm:t.getD j 0∈t:=by rw[List.getD_eq_getElem?_getD,List.getElem?_eq_getElem hjt];exact List.getElem_mem hjt
  refine⟨hw.2.2 _ hm,Classical.byContradiction fun hc=>hneg ⟨_,hm,by omega⟩,?_⟩
  rw[List.getElem?_map,List.getD_eq_getElem?_getD,List.getElem?_eq_getElem hjt];rfl
 have hv3:=hv.keep X03.keep
 simp -dsimp (disch:=try exact dx) only[wpS,zE]
 refine loop (fun m fr hh => ∃(i:Nat) (out:Value) (vs:List Value),i+m=n∧vs.length=i∧Ext h3 hh∧Acc hh h3.n 1 out i vs∧(∀k,k<i → ∃w,vs[k]?=some w∧ShSl hh w ((filtRow ll t k).map shq))∧(∀k,k<i → ∀q∈filtRow ll t k,QW q)∧fget fr 0=some v∧fget fr 6=some v6∧fget fr 7=some out∧fget fr 8=some (KN i)) n
  ⟨0,.slice none 0 0,[],by omega,rfl,Ext.refl _,Acc.nil _ _ (by omega),fun k hk=>by omega,fun k hk=>by omega,by simp,by simp,by simp,by simp⟩ ?_
 rintro m fr hh ⟨i,out,vs,him,hvl,hE,hA,hR,hQ,f0,f6,f7,f8⟩
 have nE:=hE.n
 simp -dsimp (disch:=try exact dx) only[wpS,zE,f0,f8,hlen]
 refine bq_intro ?_ ?_<;>intro hc<;>simp only[decide_eq_true_eq,decide_eq_false_iff_not] at hc
 ·have hi:i<n:=by omega
  have gq : ∀k,k<n→QB 1536 (goQ ll t i k):=fun k hk'=>by
   obtain⟨_,a,b1,_,b2,b3,_,b4⟩:=kerOk_at hk (i:=i) (j:=k) (by omega) (by omega)
   obtain⟨_,c,b5,_,b6,b7,_,b8⟩:=kerOk_at hk (i:=k) (j:=i) (by omega) (by omega)
   have w1:=(hv.atAll b1).choose_spec.2.1.2.2 a (List.mem_of_getElem? b2)
   have w2:=(hv.atAll b5).choose_spec.2.1.2.2 c (List.mem_of_getElem? b6)
   exact goQ_qb (by rw[b4];exact qb512 w1.1 w1.2 b3) (by rw[b8];exact qb512 w2.1 w2.2 b7) (pt k hk').1 (pt i hi).1 (pt i hi).2.1
  simp -dsimp (disch:=try exact dx) only[wpS,wpT]
  refine call kzero_ok ?_
  rintro r4 h4 ⟨X4,p4⟩
  have m4:=X4.n
  obtain⟨a3,s3,b3,t3,rfl,_,_,d1,o1,d2,o2,o3,o4⟩:=p4.parts
  simp -dsimp (disch:=try exact dx) only[wpS,wpT,zE,zL,zA,zc186,st186,o1,o2,o3,o4]
  have E5:Ext h4 ((h4.new (.cells ZR 0 none)).put h4.n (.cells [a3,s3,b3,t3] 0 none)):=((Ext.refl h4).new _).put (Nat.le_refl _) _
  refine loop (fun m2 fr H => ∃(j:Nat) (rw:Value) (cs:List Value),j+m2=n∧FR hh H fr v v6 out rw i j j h4.n (goQ ll t i) cs∧fget fr 11=some (KN j)) n
   ⟨0,.slice none 0 0,[],by omega,⟨X4.trans E5,AccF.nil _ _ (by omega),rfl,by omega,by simp,⟨a3,s3,b3,t3,by simp (disch:=try exact dx) only[get_put_same],p4.keep E5.keep⟩,by simp[f0],by simp[f6],by simp[f7],by simp[f8],by simp,by simp⟩,by simp⟩ ?_
  clear f0 f6 f7 f8 X4 p4 E5
  rintro m2 fr H ⟨j,rw,cs,hjm,s,f11⟩
  simp -dsimp (disch:=try exact dx) only[wpS,zE,s.f0,f11,hlen]
  refine bq_intro ?_ ?_<;>intro hc2<;>simp only[decide_eq_true_eq,decide_eq_false_iff_not] at hc2
  ·have hj:j<n:=by omega
   obtain⟨ri,p,e1,l1,e2,ok1,nn1,k1⟩:=kerOk_at hk (i:=i) (j:=j) (by omega) (by omega)
   obtain⟨rj,q,e3,l3,e4,ok2,nn2,k2⟩:=kerOk_at hk (i:=j) (j:=i) (by omega) (by omega)
   have hvh:=hv3.keep hE.keep
   obtain⟨wi,A1,A2,A3⟩:=hvh.atAll e1
   obtain⟨wj,B1,B2,B3⟩:=hvh.atAll e3
   have Lp:=fun h' (K:Keep hh h')=>A2.ld K e2
   have Lq:=fun h' (K:Keep hh h')=>B2.ld K e4
   have ip:=A2.1.idx es82 (P:=prog) (k:=.i64) (j:=j) (by omega)
   have iq:=B2.1.idx es82 (P:=prog) (k:=.i64) (j:=i) (by omega)
   have wp:=A2.2.2 p (List.mem_of_getElem? e2)
   have wq:=B2.2.2 q (List.mem_of_getElem? e4)
   have K0:=s.E.keep
   simp -dsimp (disch:=try exact dx) only[wpS,wpT]
   refine drawn [(11,[7]),(14,[7])] (by kernel_rfl) (by kernel_rfl) rfl ?_
   simp -dsimp (disch:=try exact dx) only[wpS,zE,s.f0,s.f8,f11,A3,A1 H K0,ip,Lp H K0]
   refine call (refin_ok p.1 p.2 wp.1 wp.2) ?_
   rintro r5 h5 ⟨X5,p5⟩
   have p5:=p5.rat ok1
   rw[←k1] at p5
   have K5:=(s.E.trans X5).keep
   simp -dsimp (disch:=try exact dx) only[wpS,zE,s.f0,s.f8,f11,B3,B1 h5 K5,iq,Lq h5 K5]
   refine call (refin_ok q.1 q.2 wq.1 wq.2) ?_
   rintro r6 h6 ⟨X6,p6⟩
   have p6:=p6.rat ok2
   rw[←k2] at p6
   have X56:=X5.trans X6
   have p5:=p5.keep X6.keep
   obtain⟨x1,x2,x3,x4,rfl,_,_,d1,o1,d2,o2,o3,o4⟩:=p5.parts
   obtain⟨y1,y2,y3,y4,rfl,_,_,d5,o5,d6,o6,o7,o8⟩:=p6.parts
   simp -dsimp (disch:=try exact dx) only[wpS,wpT,zE,zL,zA,zc186,st186,o1,o2,o3,o4,o5,o6,o7,o8]
   refine⟨by repeat' first|refine wpSteady_c2 ?_ ?_|refine wpSteady_t2 ?_ ?_|exact wpSteady_one rfl rfl rfl rfl (steady_load rfl (B1 _ K5) (B1 _ K0))|exact wpSteady_one rfl rfl rfl rfl (steady_load rfl (Lq _ K5) (Lq _ K0)),?_⟩
   obtain⟨H7,hH7⟩ : ∃X,X=(((h6.new (.cells ZR 0 none)).new (.cells ZR 0 none)).put h6.n (.cells [x1,x2,x3,x4] 0 none)).put (h6.n+1) (.cells [y1,y2,y3,y4] 0 none):=⟨_,rfl⟩
   have E7:Ext h6 H7:=by rw[hH7];exact((((Ext.refl h6).new _).new _).put (Nat.le_refl _) _).put (Nat.le_succ _) _
   have n7:H7.n=h6.n+2:=by rw[hH7];rfl
   have gx:H7.ext.get h6.n=some (.cells [x1,x2,x3,x4] 0 none):=by rw[hH7];simp (disch:=try exact dx) only[get_put_same,get_put_old]
   have gy:H7.ext.get (h6.n+1)=some (.cells [y1,y2,y3,y4] 0 none):=by rw[hH7];simp (disch:=try exact dx) only[get_put_same]
   rw[←hH7]
   clear hH7
   have s7:=s.ext (X56.trans E7)
   have p5:=p5.keep E7.keep
   have p6:=p6.keep E7.keep
   have sv:=sv7.keep kept_r hE.keep
   have sv0 : ∃cs,SlOf hh 4 v6 (t.map wrat).length cs:=⟨_,sv.choose_spec.1⟩
   obtain⟨cst,svt⟩:=sv0
   rw[List.length_map] at svt
   obtain⟨u1,u2,u3,u4,Lu,pu⟩:=sv.atAll kept_r (pt j hj).2.2 ag186 sz186 (P:=prog)
   obtain⟨w1,w2,w3,w4,Lw,pw⟩:=sv.atAll kept_r (pt i hi).2.2 ag186 sz186 (P:=prog)
   have iu:=svt.idx es221 (P:=prog) (k:=.i64) (j:=j) (by omega)
   have iw:=svt.idx es221 (P:=prog) (k:=.i64) (j:=i) (by omega)
   have K7:=s7.E.keep
   simp -dsimp (disch:=try exact dx) only[wpS,wpT,zA]
   refine drawn [(9,[5])] (by kernel_rfl) (by kernel_rfl) rfl ?_
   simp -dsimp (disch:=try exact dx) only[wpS,wpT,zE,zL,zA,ld186,s.f6,f11,row_of gy,tk4',iu,Lu H7 K7]
   have qb1:QB 512 (kAt ll i j):=by rw[k1];exact qb512 wp.1 wp.2 ok1
   have qb2:QB 512 (kAt ll j i):=by rw[k2];exact qb512 wq.1 wq.2 ok2
   have qb3:=wrat_qb (pt j hj).1
   have qb4:=wrat_qb (pt i hi).1
   refine call (qtimes_ok p6 (pu.keep K7) qb2 qb3 (by omega)) ?_
   rintro r9 h9 ⟨X9,p9⟩
   have K9:=(s7.E.trans X9).keep
   simp -dsimp (disch:=try exact dx) only[wpS,zE,s.f6,s.f8,iw,Lw h9 K9]
   refine call (qover_ok p9 (pw.keep K9) (qb2.mul qb3) qb4 (by omega) (wrat_ne (pt i hi).2.1)) ?_
   rintro r10 h10 ⟨X10,p10⟩
   have X90:=X9.trans X10
   have m9:=X90.n
   have qb10:=(qb2.mul qb3).div qb4 (wrat_ne (pt i hi).2.1)
   obtain⟨bk,hbk⟩ : ∃x,x=kAt ll j i*wrat (t.getD j 0) / wrat (t.getD i 0):=⟨_,rfl⟩
   have hgo:goQ ll t i j=if bk<kAt ll i j then bk else kAt ll i j:=by rw[hbk];rfl
   rw[←hbk] at p10 qb10
   clear hbk p9 qb2 qb3 qb4
   obtain⟨z1,z2,z3,z4,rfl,_,_,d9,o9,d10,o10,o11,o12⟩:=p10.parts
   simp -dsimp (disch:=try exact dx) only[wpS,wpT,zE,zL,zA,zc186,st186,o9,o10,o11,o12]
   refine⟨by repeat' first|refine wpSteady_c2 ?_ ?_|refine wpSteady_t2 ?_ ?_|exact wpSteady_one rfl rfl rfl rfl (steady_load rfl (Lw _ K9) (Lw _ K7)),?_⟩
   obtain⟨H11,hH11⟩ : ∃X,X=(h10.new (.cells ZR 0 none)).put h10.n (.cells [z1,z2,z3,z4] 0 none):=⟨_,rfl⟩
   have E11:Ext h10 H11:=by rw[hH11];exact((Ext.refl h10).new _).put (Nat.le_refl _) _
   have n11:H11.n=h10.n+1:=by rw[hH11];rfl
   have gz:H11.ext.get h10.n=some (.cells [z1,z2,z3,z4] 0 none):=by rw[hH11];simp (disch:=try exact dx) only[get_put_same]
   rw[←hH11]
   clear hH11
   have X711:=X90.trans E11
   have gx11:=X711.kept (by omega) gx
   simp -dsimp (disch:=try exact dx) only[wpS,wpT,zE,zL,zA,zc186,st186,ld186,row_of gx11,row_of gz,o1,o2,o3,o4,tk4']
   obtain⟨H12,hH12⟩ : ∃X,X=(H11.new (.cells ZR 0 none)).put H11.n (.cells [x1,x2,x3,x4] 0 none):=⟨_,rfl⟩
   have E12:Ext H11 H12:=by rw[hH12];exact((Ext.refl H11).new _).put (Nat.le_refl _) _
   have n12:H12.n=H11.n+1:=by rw[hH12];rfl
   have g15:H12.ext.get H11.n=some (.cells [x1,x2,x3,x4] 0 none):=by rw[hH12];simp (disch:=try exact dx) only[get_put_same]
   have gz12:=E12.kept (by omega) gz
   rw[←hH12]
   clear hH12
   have X712:=X711.trans E12
   refine call (qorder_ok (p10.keep (E11.trans E12).keep) (p5.keep X712.keep) qb10 qb1 (by omega)) ?_
   rintro _ h13 ⟨X13,rfl⟩
   obtain⟨zz,hz,hzc⟩ : ∃z:Int,(if bk<kAt ll i j then (-1:Int) else if bk=kAt ll i j then 0 else 1)=z∧(z<0↔bk<kAt ll i j):=⟨_,rfl,cmp_less _ _⟩
   rw[hz]
   have X713:=X712.trans X13
   have n13:=X13.n
   have s13:=s7.ext X713
   have hb10:=s13.b2
   have hbb:=(s.ext (X56.trans E7)).b2
   have hb4:h4.n<h6.n:=(s.ext X56).b2
   have hh6:hh.n≤h6.n:=(s.ext X56).E.n
   have g13:=X13.kept (by omega) g15
   have gz13:=X13.kept (by omega) gz12
   have px13:=p5.keep X713.keep
   have pz13:=p10.keep ((E11.trans E12).trans X13).keep
   simp -dsimp (disch:=try exact dx) only[wpS,zE]
   refine bq_cut (fun fr' h'=>(∃a b c d,h'.ext.get H11.n=some (.cells [a,b,c,d] 0 none)∧RRat h' (.agg #[a,b,c,d]) (goQ ll t i j))∧H11.n<h'.n∧FR hh h' fr' v v6 out rw i j j h4.n (goQ ll t i) cs∧fget fr' 15=some (ptr (2*H11.n) 0)∧fget fr' 11=some (KN j)) (fun hb=>?_) (fun hb=>?_) ?_
   ·simp only[decide_eq_true_eq] at hb
    rw[if_pos (hzc.1 hb)] at hgo
    simp -dsimp (disch:=try exact dx) only[wpS,wpT,zE,zL,zA,st186,ld186,row_of gz13,g13,o9,o10,o11,o12,tk4']
    have s14:=s13.putV g13 (by omega) (by omega) (.cells [z1,z2,z3,z4] 0 none)
    exact⟨⟨z1,z2,z3,z4,get_put_same _ _ rfl,by rw[hgo];exact pz13.keep ((Keep.refl _).put g13 _)⟩,by simp only[put_n];omega,s14.frm (by simp[s.f0]) (by simp[s.f6]) (by simp[s.f7]) (by simp[s.f8]) (by simp[s.f9]) (by simp[s.f10]),by simp,by simp[f11]⟩
   ·simp only[decide_eq_false_iff_not] at hb
    rw[if_neg (fun h=>hb (hzc.2 h))] at hgo
    simp -dsimp (disch:=try exact dx) only[wpS,wpT]
    exact⟨⟨x1,x2,x3,x4,g13,by rw[hgo];exact px13⟩,by omega,s13.frm (by simp[s.f0]) (by simp[s.f6]) (by simp[s.f7]) (by simp[s.f8]) (by simp[s.f9]) (by simp[s.f10]),by simp,by simp[f11]⟩
   clear s13 g13 gz13 px13 pz13 s7 gx gy p5 p6 gx11 gz gz12 g15 p10
   rintro fr1 h1' ⟨⟨a1,a2,a3',a4,ga,pa⟩,lb,s1,f15,f11'⟩
   obtain⟨_,_,_,_,he1,_,_,_,b1,_,b2,b3',b4⟩:=pa.parts
   cases he1
   simp -dsimp (disch:=try exact dx) only[wpS,zE,s1.f8,f11']
   refine bq_cut (fun fr' h'=>(∃a b c d,h'.ext.get H11.n=some (.cells [a,b,c,d] 0 none)∧RRat h' (.agg #[a,b,c,d]) (pQ (goQ ll t i) i j))∧H11.n<h'.n∧FR hh h' fr' v v6 out rw i j j h4.n (goQ ll t i) cs∧fget fr' 15=some (ptr (2*H11.n) 0)∧fget fr' 11=some (KN j)) (fun hb=>?_) (fun hb=>?_) ?_
   ·have hij:i=j:=by simp at hb;omega
    have ep:pQ (goQ ll t i) i j=0:=if_pos hij
    simp -dsimp (disch:=try exact dx) only[wpS,wpT]
    refine call kzero_ok ?_
    rintro r2 h2' ⟨Y2,p2⟩
    have l2:=Y2.n
    obtain⟨c1,c2,c3,c4,rfl,_,_,_,q1,_,q2,q3,q4⟩:=p2.parts
    have ga2:=Y2.kept lb ga
    simp -dsimp (disch:=try exact dx) only[wpS,wpT,zE,zL,zA,st186,f15,ga2,q1,q2,q3,q4]
    have s2:=(s1.ext Y2).putV ga2 (by omega) (by omega) (.cells [c1,c2,c3,c4] 0 none)
    exact⟨⟨c1,c2,c3,c4,get_put_same _ _ rfl,by rw[ep];exact p2.keep ((Keep.refl _).put ga2 _)⟩,by simp only[put_n];omega,s2.frm (by simp[s1.f0]) (by simp[s1.f6]) (by simp[s1.f7]) (by simp[s1.f8]) (by simp[s1.f9]) (by simp[s1.f10]),by simp[f15],by simp[f11']⟩
   ·have hij : ¬i=j:=by simp at hb;omega
    have ep:pQ (goQ ll t i) i j=goQ ll t i j:=if_neg hij
    simp -dsimp (disch:=try exact dx) only[wpS,wpT]
    exact⟨⟨a1,a2,a3',a4,ga,by rw[ep];exact pa⟩,lb,s1.frm (by simp[s1.f0]) (by simp[s1.f6]) (by simp[s1.f7]) (by simp[s1.f8]) (by simp[s1.f9]) (by simp[s1.f10]),by simp[f15],by simp[f11']⟩
   clear s1 ga pa f15 f11' b1 b2 b3' b4
   rintro fr2 h2' ⟨⟨a1,a2,a3',a4,ga,pa⟩,lb,s2,f15,f11'⟩
   obtain⟨_,_,_,_,he1,_,_,_,b1,_,b2,b3',b4⟩:=pa.parts
   cases he1
   obtain⟨c1,c2,c3,c4,gb,pb⟩:=s2.box
   simp -dsimp (disch:=try exact dx) only[wpS,wpT,zE,zL,zA,ld186,s2.f10,f15,row_of ga,row_of gb,tk4']
   have qp:QB 1536 (pQ (goQ ll t i) i j):=by
    unfold pQ
    split
    ·exact QB.zero.mono (by omega)
    ·exact gq j hj
   refine call (qplus_ok pb pa (sumP_qb fun k hk'=>gq k (by omega)) qp (by omega)) ?_
   rintro r3 h3' ⟨Y3,p3⟩
   have l3:=Y3.n
   obtain⟨d1,d2,d3,d4,rfl,_,_,_,q1,_,q2,q3,q4⟩:=p3.parts
   have gb3:=Y3.kept s2.b2 gb
   have ga3:=Y3.kept lb ga
   have s3:=(s2.ext Y3).sum p3
   have hne:H11.n≠h4.n:=by omega
   obtain⟨H14,hH14⟩ : ∃X,X=h3'.put h4.n (.cells [d1,d2,d3,d4] 0 none):=⟨_,rfl⟩
   have n14:H14.n=h3'.n:=by rw[hH14];rfl
   have ga4:H14.ext.get H11.n=some (.cells [a1,a2,a3',a4] 0 none):=by rw[hH14,get_put_old _ _ hne];exact ga3
   have pa4:RRat H14 (.agg #[a1,a2,a3',a4]) (pQ (goQ ll t i) i j):=by rw[hH14];exact(pa.keep Y3.keep).keep ((Keep.refl _).put gb3 _)
   rw[←hH14] at s3
   have hle:=s3.E.n
   obtain⟨rw',h15,hap,hA15,hG15,hE15⟩:=s3.acc.appN (P:=prog) (t:=221) ap221 (m:=1) (new:=[a1,a2,a3',a4]) (by omega) rfl (by simp[b1,b2,b3',b4]) (by omega) (by omega) s3.E (Nat.le_refl _)
   have hap':append prog ((h3'.put h4.n (.cells [d1,d2,d3,d4] 0 none)).new (.cells [a1,a2,a3',a4] 4 none)) 221 rw (.slice (some ⟨2*h3'.n,0,none⟩) 1 3)=some (rw',h15):=by
    rw[←n14,←hH14];exact hap
   have ga4':(h3'.put h4.n (.cells [d1,d2,d3,d4] 0 none)).row (2*H11.n)=some [a1,a2,a3',a4]:=by rw[←hH14];exact row_of ga4
   simp -dsimp (disch:=try exact dx) only[wpS,wpT,zE,zL,zA,st186,ld186,bs221,ba221_221,s2.f9,s2.f10,f15,f11',gb3,q1,q2,q3,q4,tk4',ga4',hap']
   obtain⟨e1',e2',e3',e4',gb4,pb4⟩:=s3.box
   have l15:=hG15.n
   refine⟨m2 - 1,by omega,j+1,rw',_,by omega,⟨hE15,hA15,?_,s3.b1,Nat.lt_of_lt_of_le s3.b2 l15,⟨_,_,_,_,hG15.var s3.b2 gb4,pb4.keep hG15.keep⟩,by simp[s2.f0],by simp[s2.f6],by simp[s2.f7],by simp[s2.f8],by simp,by simp[s2.f10]⟩,by simp⟩
   have er:(List.range (j+1)).map (pQ (goQ ll t i) i)=(List.range j).map (pQ (goQ ll t i) i) ++ [pQ (goQ ll t i) i j]:=by rw[List.range_succ,List.map_append];rfl
   rw[er]
   exact(s3.els.snoc pa4).keep kept_r hG15.keep
  ·obtain rfl:j=n:=by omega
   obtain⟨c1,c2,c3,c4,gb,pb⟩:=s.box
   have L1:=(ql4 gb).2.2
   have X0:=Ext.refl H
   simp -dsimp (disch:=try exact dx) only[wpS,wpT]
   refine drawn [(3,[2])] (by kernel_rfl) (by kernel_rfl) rfl ?_
   simp -dsimp (disch:=try exact dx) only[wpS,zE,s.f8,s.f9]
   refine call (quick_ok 1 1 ⟨by omega,by omega⟩ ⟨by omega,by omega⟩ (by omega)) ?_
   rintro r5 h5 ⟨X5,p5⟩
   rw[show Rat.divInt 1 1=(1:Rat) from rfl] at p5
   have gb5:=X5.kept s.b2 gb
   simp -dsimp (disch:=try exact dx) only[wpS,wpT,zE,zL,zA,ld186,s.f10,row_of gb5,tk4']
   refine call (qminus_ok p5 (pb.keep X5.keep) (QB.int (k:=1) (n:=1) (by decide)) (sumP_qb fun k hk'=>gq k (by omega)) (by omega)) ?_
   rintro r6 h6 ⟨X6,p6⟩
   rw[off_sum] at p6
   have X56:=X5.trans X6
   have s6:=s.ext X56
   obtain⟨d1,d2,d3,d4,rfl,_,_,_,q1,_,q2,q3,q4⟩:=p6.parts
   obtain⟨H7,st,acc7,E7,n7,b7,oth⟩:=s6.acc.setN (P:=prog) (t:=186) sz186 hi (x:=.agg #[d1,d2,d3,d4]) (xs:=[d1,d2,d3,d4]) rfl rfl (by simp[q1,q2,q3,q4]) s6.E (Nat.le_refl _)
   have kz:KeepZ 1 h6 H7:=⟨by omega,b7,fun k c f hk hg=>⟨f,oth k c 1 f (by decide) hg⟩⟩
   have ix:=s6.acc.1.sl.idx es221 (P:=prog) (k:=.i64) hi
   simp -dsimp (disch:=try exact dx) only[wpS,zE,ix,st]
   refine⟨wpSteady_one rfl rfl rfl rfl (steady_load s.f10 (load_of L1 s.b2 X5) L1),?_⟩
   have hl7:=s6.acc.1.sl.2.1
   have hrow:ElSl RRat H7 rw (filtRow ll t i):=by
    refine⟨_,by rw[filtRow_len,←hn];exact acc7.1.sl,ElCs_of (by rw[filtRow_len,←hn];exact acc7.1.sl.2.1) fun k q hq=>?_,by rw[filtRow_len];omega⟩
    have hkn:k<ll.length:=by have:=(List.getElem?_eq_some_iff.1 hq).1;rwa [filtRow_len] at this
    rw[filtRow_at hkn] at hq
    cases hq
    by_cases hki:k=i
    ·subst hki
     rw[filtQ,if_pos rfl,←hn]
     exact RatAt.set (by omega) (p6.keepZ kz)
    ·have hg:((List.range j).map (pQ (goQ ll t i) i))[k]?=some (filtQ ll t i k):=by
      rw[List.getElem?_map,List.getElem?_range (by omega),filtQ,if_neg hki]
      exact congrArg some (if_neg fun h=>hki h.symm)
     exact((ElCs_at s6.els hg).mono fun v p=>p.keepZ kz).other (by omega) hki
   simp -dsimp (disch:=try exact dx) only[wpS,wpT,zE,zA,s.f9]
   refine call (rktold_ok hrow (by rw[filtRow_len];omega)) ?_
   rintro r17 h17 ⟨X17,q1',q2'⟩
   have E17:=E7.trans X17
   by_cases hall : ∀q∈filtRow ll t i,QW q
   ·obtain⟨w,rfl,sw⟩:=q1' hall
    have n17:=E17.n
    obtain⟨out',h18,hap,hA8,hG8,hE8⟩:=(hA.ext E17).app1 (P:=prog) (t:=54) ap54 (x:=w) sw.co.2 (by omega) (by omega) (hE.trans E17) (Nat.le_refl _)
    simp -dsimp (disch:=try exact dx) only[wpS,wpT,zE,zL,zA,bs54,ba54_54,s.f7,s.f8,sw.co,hap]
    refine⟨m - 1,by omega,i+1,out',vs ++ [w],by omega,by simp[hvl],hE8,hA8,fun k hk'=>?_,fun k hk'=>?_,by simp[s.f0],by simp[s.f6],by simp,by simp⟩
    ·by_cases hki:k=i
     ·subst hki
      exact⟨w,by rw[←hvl];simp,sw.keep hG8.keep⟩
     ·obtain⟨w',h1,h2⟩:=hR k (by omega)
      exact⟨w',by rw[List.getElem?_append_left (by omega)];exact h1,(h2.keep E17.keep).keep hG8.keep⟩
    ·by_cases hki:k=i
     ·subst hki;exact hall
     ·exact hQ k (by omega)
   ·obtain rfl:=q2' hall
    rw[e,if_neg fun h=>hall (h i (by omega))]
    simp -dsimp (disch:=try exact dx) only[wpS,wpT,zE]
    exact⟨(X03.trans hE).trans E17,_,rfl,fun h=>absurd h (by decide),fun _=>rfl⟩
 ·obtain rfl:i=n:=by omega
  simp -dsimp (disch:=try exact dx) only[wpS,wpT,zE,f7]
  have hfo:filtOk ll t:=fun k hk=>hQ k (by omega)
  rw[e,if_pos hfo]
  refine⟨X03.trans hE,out,rfl,fun _=>⟨vs,by rw[filtLL_len,←hn];exact hA.sl,by rw[filtLL_len];omega,fun k x hx=>?_⟩,fun h=>absurd rfl h⟩
  have hkl:k<ll.length:=by have:=(List.getElem?_eq_some_iff.1 hx).1;rwa [filtLL_len] at this
  rw[filtLL_at hkl] at hx
  cases hx
  exact hR k (by omega)
end Go.Id

namespace Go.Id
open Go
open Go.Proofs.Tryz (prog)
open Nat renaming reduceAdd→zA,reduceEqDiff→zE
set_option maxHeartbeats 16000000
open Classical in
noncomputable def levE (ll:List (List (Nat×Nat))) (ws:List Nat) (s:List Int) (level:Int):Int:=if ¬kerOk ll then 330 else if tgErr ws s level≠0 then tgErr ws s level else if s.length≠ll.length then 2 else filtE ll (mapZ (tgtZ s level) ws ws.length)
theorem teLevel_ok {h:IH} {v w x:Value} {ll:List (List (Nat×Nat))} {ws:List Nat} {s:List Int} {level:Int} (hv:ShLs h v ll) (hw:WiSl h w ws) (hs:InSl h x s) (hl:In64 level) :
  WV prog (.func (.func 22) #[] #[]) [v,w,x,KI level] h fun r h'=>Ext h h' ∧ ∃out,r=.tuple #[out,KI (levE ll ws s level)]∧(levE ll ws s level=0→ShLs h' out (filtLL ll (mapZ (tgtZ s level) ws ws.length)))∧(levE ll ws s level≠0→out=.slice none 0 0):=by
 obtain⟨_,_,hlen⟩:=hv.co
 have hls:=hs.1.len (P:=prog) sl25
 refine enter (nt:=38) (rs:=[.tmp 8,.tmp 9]) Proofs.Tryz.func22 rfl rfl rfl (by simp) ?_
 simp -dsimp (disch:=try exact dx) only[wpS,zE,zA]
 refine call (kcheck_ok hv) ?_
 rintro _ h1 ⟨X1,rfl⟩
 by_cases hk:kerOk ll
 case neg =>
  have e:levE ll ws s level=330:=by rw[levE,if_pos hk]
  rw[e,kerE,if_neg hk]
  simp -dsimp (disch:=try exact dx) only[wpS,wpT,zE]
  exact⟨X1,_,rfl,fun h=>absurd h (by decide),fun _=>rfl⟩
 rw[kerE,if_pos hk]
 simp -dsimp (disch:=try exact dx) only[wpS,wpT,zE]
 refine call (teTargets_ok (hw.keep X1.keep) (hs.keep X1.keep) hl) ?_
 rintro _ h2 ⟨X2,t,rfl,q1,q2⟩
 have X12:=X1.trans X2
 by_cases ht:tgErr ws s level=0
 case neg =>
  have e:levE ll ws s level=tgErr ws s level:=by rw[levE,if_neg (fun h=>h hk),if_pos ht]
  have d:(tgErr ws s level != 0)=true:=by simpa using ht
  rw[e]
  simp -dsimp (disch:=try exact dx) only[wpS,zE,d]
  exact⟨X12,_,rfl,fun h=>absurd h ht,fun _=>rfl⟩
 rw[ht]
 by_cases hn:s.length=ll.length
 case neg =>
  have e:levE ll ws s level=2:=by rw[levE,if_neg (fun h=>h hk),if_neg (fun h=>h ht),if_pos hn]
  have d:(((s.length:Nat):Int) != ((ll.length:Nat):Int))=true:=by simpa using fun h=>hn (by omega)
  rw[e]
  simp -dsimp (disch:=try exact dx) only[wpS,wpT,zE,hlen,hls,d]
  exact⟨X12,_,rfl,fun h=>absurd h (by decide),fun _=>rfl⟩
 have e:levE ll ws s level=filtE ll (mapZ (tgtZ s level) ws ws.length):=by rw[levE,if_neg (fun h=>h hk),if_neg (fun h=>h ht),if_neg (fun h=>h hn)]
 have d:(((s.length:Nat):Int) != ((ll.length:Nat):Int))=false:=by simp[hn]
 simp -dsimp (disch:=try exact dx) only[wpS,wpT,zE,hlen,hls,d]
 refine call (kfilter_ok (hv.keep X12.keep) (q1 ht)) ?_
 rintro _ h3 ⟨X3,out,rfl,q3,q4⟩
 rw[e]
 simp -dsimp (disch:=try exact dx) only[wpS,zE]
 exact⟨X12.trans X3,out,rfl,q3,q4⟩
open Classical in
theorem rfLevel_ok {h:IH} {v w x:Value} {ll:List (List (Nat×Nat))} {ws:List Nat} {s:List Int} {level:Int} (hv:ShLs h v ll) (hw:WiSl h w ws) (hs:InSl h x s) (hl:In64 level) :
  WV prog (.func (.func 23) #[] #[]) [v,w,x,KI level] h fun r h'=>Ext h h' ∧ ∃out,r=.tuple #[out,KI (levE ll ws s level)]∧(levE ll ws s level=0→ShLs h' out (filtLL ll (mapZ (tgtZ s level) ws ws.length)))∧(levE ll ws s level≠0→out=.slice none 0 0):=by
 obtain⟨_,_,hlen⟩:=hv.co
 have hls:=hs.1.len (P:=prog) sl25
 refine enter (nt:=35) (rs:=[.tmp 8,.tmp 9]) Proofs.Tryz.func23 rfl rfl rfl (by simp) ?_
 simp -dsimp (disch:=try exact dx) only[wpS,zE,zA]
 refine call (kright_ok hv) ?_
 rintro _ h1 ⟨X1,rfl⟩
 by_cases hk:kerOk ll
 case neg =>
  have e:levE ll ws s level=330:=by rw[levE,if_pos hk]
  rw[e,decide_eq_false hk]
  simp -dsimp (disch:=try exact dx) only[wpS,wpT,zE]
  exact⟨X1,_,rfl,fun h=>absurd h (by decide),fun _=>rfl⟩
 rw[decide_eq_true hk]
 simp -dsimp (disch:=try exact dx) only[wpS,wpT,zE]
 refine call (rfTargets_ok (hw.keep X1.keep) (hs.keep X1.keep) hl) ?_
 rintro _ h2 ⟨X2,t,rfl,q1,q2⟩
 have X12:=X1.trans X2
 by_cases ht:tgErr ws s level=0
 case neg =>
  have e:levE ll ws s level=tgErr ws s level:=by rw[levE,if_neg (fun h=>h hk),if_pos ht]
  have d:(tgErr ws s level != 0)=true:=by simpa using ht
  rw[e]
  simp -dsimp (disch:=try exact dx) only[wpS,zE,d]
  exact⟨X12,_,rfl,fun h=>absurd h ht,fun _=>rfl⟩
 rw[ht]
 by_cases hn:s.length=ll.length
 case neg =>
  have e:levE ll ws s level=2:=by rw[levE,if_neg (fun h=>h hk),if_neg (fun h=>h ht),if_pos hn]
  have d:(((s.length:Nat):Int) != ((ll.length:Nat):Int))=true:=by simpa using fun h=>hn (by omega)
  rw[e]
  simp -dsimp (disch:=try exact dx) only[wpS,wpT,zE,hlen,hls,d]
  exact⟨X12,_,rfl,fun h=>absurd h (by decide),fun _=>rfl⟩
 have e:levE ll ws s level=filtE ll (mapZ (tgtZ s level) ws ws.length):=by rw[levE,if_neg (fun h=>h hk),if_neg (fun h=>h ht),if_neg (fun h=>h hn)]
 have d:(((s.length:Nat):Int) != ((ll.length:Nat):Int))=false:=by simp[hn]
 simp -dsimp (disch:=try exact dx) only[wpS,wpT,zE,hlen,hls,d]
 refine call (rkfilter_ok (hv.keep X12.keep) (q1 ht)) ?_
 rintro _ h3 ⟨X3,out,rfl,q3,q4⟩
 rw[e]
 simp -dsimp (disch:=try exact dx) only[wpS,zE]
 exact⟨X12.trans X3,out,rfl,q3,q4⟩
theorem rowsW {h:IH} {v:Value} {l:List (Nat×Nat)} (s:ShSl h v l) {i:Nat} {p:Nat×Nat} (hi:l[i]?=some p):p.1<W8∧p.2<W8:=s.2.2 p (List.mem_of_getElem? hi)
theorem kSame_ok {h:IH} {v w:Value} {ll mm:List (List (Nat×Nat))} (hv:ShLs h v ll) (hw:ShLs h w mm) :
  WV prog (.func (.func 24) #[] #[]) [v,w] h fun r h'=>h'=h∧r=.bool (decide (ll=mm)):=by
 obtain⟨_,_,lv⟩:=hv.co
 obtain⟨_,_,lw⟩:=hw.co
 have b1:=hv.choose_spec.2.1
 have b2:=hw.choose_spec.2.1
 refine enter (nt:=53) (rs:=[.tmp 4]) Proofs.Tryz.func24 rfl rfl rfl (by simp) ?_
 by_cases hl:ll.length=mm.length
 case neg =>
  have d:(((ll.length:Nat):Int) != ((mm.length:Nat):Int))=true:=by simpa using fun h=>hl (by omega)
  rw[decide_eq_false (fun h=>hl (by rw[h]))]
  simp -dsimp (disch:=try exact dx) only[wpS,wpT,zE,zA,lv,lw,d]
 have d:(((ll.length:Nat):Int) != ((mm.length:Nat):Int))=false:=by simp[hl]
 simp -dsimp (disch:=try exact dx) only[wpS,zE,zA,lv,lw,d]
 refine loop (fun m fr hh=>hh=h ∧ ∃i:Nat,i+m=ll.length∧(∀j,j<i→ll[j]?=mm[j]?)∧fget fr 0=some v∧fget fr 1=some w∧fget fr 5=some (KN i)) ll.length
  ⟨rfl,0,by omega,fun j hj=>by omega,by simp,by simp,by simp⟩ ?_
 rintro m fr hh ⟨rfl,i,him,hz,f0,f1,f5⟩
 simp -dsimp (disch:=try exact dx) only[wpS,zE,f0,f5,lv]
 refine bq_intro ?_ ?_<;>intro hc<;>simp only[decide_eq_true_eq,decide_eq_false_iff_not] at hc
 ·have hi:i<ll.length:=by omega
  obtain⟨x,hx⟩ : ∃x,ll[i]?=some x:=⟨_,List.getElem?_eq_getElem hi⟩
  obtain⟨y,hy⟩ : ∃y,mm[i]?=some y:=⟨mm[i]'(by omega),List.getElem?_eq_getElem (by omega)⟩
  obtain⟨wx,A1,A2,A3⟩:=hv.atAll hx
  obtain⟨wy,B1,B2,B3⟩:=hw.atAll hy
  have K:=Keep.refl hh
  have lx:=A2.1.len (P:=prog) sl82
  have ly:=B2.1.len (P:=prog) sl82
  have bx:=A2.2.1
  have by':=B2.2.1
  by_cases hxy:x.length=y.length
  case neg =>
   have d:(((x.length:Nat):Int) != ((y.length:Nat):Int))=true:=by simpa using fun h=>hxy (by omega)
   have hne : ¬ll=mm:=fun h'=>hxy (by rw[h'] at hx;rw[hx] at hy;cases hy;rfl)
   simp -dsimp (disch:=try exact dx) only[wpS,wpT,zE,f0,f1,f5,A3,B3,A1 hh K,B1 hh K,lx,ly,d]
   rw[decide_eq_false hne]
  have d:(((x.length:Nat):Int) != ((y.length:Nat):Int))=false:=by simp[hxy]
  simp -dsimp (disch:=try exact dx) only[wpS,wpT,zE,f0,f1,f5,A3,B3,A1 hh K,B1 hh K,lx,ly,d]
  refine loop (fun m2 fr h2=>h2=hh ∧ ∃j:Nat,j+m2=x.length∧(∀k,k<j→x[k]?=y[k]?)∧fget fr 0=some v∧fget fr 1=some w∧fget fr 5=some (KN i)∧fget fr 6=some (KN j)) x.length
   ⟨rfl,0,by omega,fun j hj=>by omega,by simp[f0],by simp[f1],by simp[f5],by simp⟩ ?_
  clear f0 f1 f5
  rintro m2 fr h2 ⟨rfl,j,hjm,hq,f0,f1,f5,f6⟩
  simp -dsimp (disch:=try exact dx) only[wpS,zE,f0,f5,f6,A3,A1 h2 K,lx]
  refine bq_intro ?_ ?_<;>intro hc2<;>simp only[decide_eq_true_eq,decide_eq_false_iff_not] at hc2
  ·have hj:j<x.length:=by omega
   obtain⟨p,hp⟩ : ∃p,x[j]?=some p:=⟨_,List.getElem?_eq_getElem hj⟩
   obtain⟨q,hq'⟩ : ∃q,y[j]?=some q:=⟨y[j]'(by omega),List.getElem?_eq_getElem (by omega)⟩
   have wp:=rowsW A2 hp
   have wq:=rowsW B2 hq'
   have Lp:load prog h2 48 (elemAddr wx (j*16))=some (.agg (shC p.1 p.2).toArray):=A2.ld K hp
   have Lq:load prog h2 48 (elemAddr wy (j*16))=some (.agg (shC q.1 q.2).toArray):=B2.ld K hq'
   by_cases hpq:p.1=q.1∧p.2=q.2
   ·have zc : ∀ox oy,binop prog .neq 48 ox oy (.agg (shC p.1 p.2).toArray) (.agg (shC q.1 q.2).toArray)=some (.bool false):=fun ox oy=>by
     rw[sh_neq wp.1 wp.2 wq.1 wq.2,decide_eq_true hpq];rfl
    simp -dsimp (disch:=try exact dx) only[wpS,wpT,zE,f0,f1,f5,f6,A3,B3,A1 h2 K,B1 h2 K,A2.1.idx es82 (P:=prog) (k:=.i64) hj,B2.1.idx es82 (P:=prog) (k:=.i64) (show j<y.length by omega),Lp,Lq,zc]
    refine⟨m2 - 1,by omega,rfl,j+1,by omega,fun k hk=>?_,by simp[f0],by simp[f1],by simp[f5],by simp⟩
    by_cases hkj:k=j
    ·subst hkj;rw[hp,hq'];exact congrArg some (Prod.ext hpq.1 hpq.2)
    ·exact hq k (by omega)
   ·have zc : ∀ox oy,binop prog .neq 48 ox oy (.agg (shC p.1 p.2).toArray) (.agg (shC q.1 q.2).toArray)=some (.bool true):=fun ox oy=>by
     rw[sh_neq wp.1 wp.2 wq.1 wq.2,decide_eq_false hpq];rfl
    have hne : ¬ll=mm:=fun h'=>hpq (by
     rw[h'] at hx;rw[hx] at hy;cases hy
     rw[hp] at hq';cases hq';exact⟨rfl,rfl⟩)
    simp -dsimp (disch:=try exact dx) only[wpS,wpT,zE,f0,f1,f5,f6,A3,B3,A1 h2 K,B1 h2 K,A2.1.idx es82 (P:=prog) (k:=.i64) hj,B2.1.idx es82 (P:=prog) (k:=.i64) (show j<y.length by omega),Lp,Lq,zc]
    rw[decide_eq_false hne]
  ·have exy:x=y:=by
    apply List.ext_getElem?
    intro k
    by_cases hk:k<j
    ·exact hq k hk
    ·rw[List.getElem?_eq_none (by omega),List.getElem?_eq_none (by omega)]
   simp -dsimp (disch:=try exact dx) only[wpS,wpT,zE,f5]
   refine⟨m - 1,by omega,rfl,i+1,by omega,fun k hk=>?_,by simp[f0],by simp[f1],by simp⟩
   by_cases hki:k=i
   ·subst hki;rw[hx,hy,exy]
   ·exact hz k (by omega)
 ·have e:ll=mm:=by
   apply List.ext_getElem?
   intro k
   by_cases hk:k<i
   ·exact hz k hk
   ·rw[List.getElem?_eq_none (by omega),List.getElem?_eq_none (by omega)]
  rw[decide_eq_true e]
  simp -dsimp (disch:=try exact dx) only[wpS,wpT]
end Go.Id
